/- LinesMany, walked. -/
import Derived.Test.YtjjppbfknjeddaaLinAlive
namespace Go.Proofs.Ytjjppbfknjeddaa
open Go.RowKit Go.Shelf
set_option linter.unusedVariables false
set_option linter.unusedSimpArgs false
attribute [local go_sem ↓] Go.wp_at_zero Go.wp_at_succ
theorem run_index_txt {P : Program} {t : TypeId} (ht : P.underlying t = some .string) {l : List UInt8} {k : Nat} (hk : k < l.length) (w : World) : (Instr.index t (.string ⟨l.toArray⟩) (.int .i64 k)).run P w = .ok (.int .u8 ((l.getD k 0).toNat : Int)) w := by
  simp only [Instr.index, asIntOf, Sem.run_bind, Sem.run_pure, Result.andThen_ok, run_underlying ht]
  have hb : (⟨l.toArray⟩ : ByteArray)[k]? = some (l.getD k 0) := by
    rw [getElem?_pos (⟨l.toArray⟩ : ByteArray) k (by show k < l.toArray.size; simpa using hk)]
    simp [List.getD, hk]
    rfl
  simp [hb]
theorem not_odd {c : UInt8} (h : oddB c = false) : (c = 9 ∨ 32 ≤ (c.toNat : Int)) ∧ (c.toNat : Int) ≤ 126 := by
  rw [oddB_iff] at h
  simp at h
  refine ⟨?_, by omega⟩
  by_cases h9 : (c.toNat : Int) = 9
  · exact .inl (UInt8.toNat_inj.1 (by simp; omega))
  · right
    by_cases h32 : (c.toNat : Int) < 32
    · exact absurd (h.1 h32) h9
    · omega
theorem count_take_succ {bs : List UInt8} {k : Nat} (hk : k < bs.length) : (bs.take (k + 1)).count 10 = (bs.take k).count 10 + (if bs.getD k 0 = 10 then 1 else 0) := by
  have e : bs.getD k 0 = bs[k] := by simp [List.getD, hk]
  rw [List.take_succ_eq_append_getElem hk, List.count_append, e]
  congr 1
  by_cases h : bs[k] = 10
  · rw [if_pos h, h]; rfl
  · rw [if_neg h, List.count_singleton]; simp [h]
theorem last_take_succ {bs : List UInt8} {k : Nat} (hk : k < bs.length) : lastB 0 (bs.take (k + 1)) = if bs.getD k 0 = 10 then 0 else lastB 0 (bs.take k) + 1 := by
  have e : bs.getD k 0 = bs[k] := by simp [List.getD, hk]
  rw [List.take_succ_eq_append_getElem hk, lastB_snoc, e]
set_option maxRecDepth 40000 in
set_option maxHeartbeats 4000000 in
theorem LinesMany_any {w : World} {b : Nat} {ao : Option Addr} {n cap : Nat} {bs : List UInt8} (h : Rd w b ao n cap bs) :
    Calls Try.prog 4 #[.slice ao n cap] w fun e w' => e = .returned (.bool true) ∧ Below w.heap.size w w' := by
  have HL := Lib.hid h
  clear h
  by_cases hn : 200000 < n
  · have hn' : 200000 < (n : Int) := by omega
    go_enter Try.func4, Try.ntmps4
    go_wp2_with fail
    refine Calls.mono (alive12_any _) ?_
    rintro e w1 ⟨rfl, hc1⟩
    have C1 := Lib.hid hc1; clear hc1
    go_wp2_with fail
    refine Calls.mono (alive12_any _) ?_
    rintro e w2 ⟨rfl, hc2⟩
    have C2 := Lib.hid (C1.out.trans hc2); clear hc2
    go_wp2_with fail
    go_ret
    exact ⟨rfl, C2.out.belowN⟩
  · have hn' : ¬ 200000 < (n : Int) := by omega
    go_enter Try.func4, Try.ntmps4
    go_wp2_with fail
    refine Calls.mono (alive12_any _) ?_
    rintro e w1 ⟨rfl, hc1⟩
    have C1 := Lib.hid hc1; clear hc1
    go_wp2_with fail
    refine Calls.mono (New_any _) ?_
    rintro e w2 ⟨rfl, hr2, hc2⟩
    obtain ⟨r, hrr⟩ : ∃ r, r = w1.heap.size + 1 := ⟨_, rfl⟩
    obtain ⟨p, hpp⟩ : ∃ p, p = w1.heap.size := ⟨_, rfl⟩
    have PB := Lib.hid (show w.heap.size ≤ p by have := C1.out.size; omega)
    rw [← hrr, ← hpp] at hr2
    rw [← hrr]
    have R2 := Lib.hid hr2; have C2 := Lib.hid (C1.out.trans hc2)
    have HL2 := Lib.hid (HL.out.chg C2.out (fun h => h))
    have Hb := Lib.hid (fun hp : 0 < n => HL.out.lt hp)
    clear hr2 hc2 hrr hpp
    obtain ⟨L, hLL⟩ : ∃ L, putB [] bs = L := ⟨_, rfl⟩
    obtain ⟨s', hss⟩ : ∃ s', restB [] bs = s' := ⟨_, rfl⟩
    have LE := Lib.hid hLL; have SE := Lib.hid hss
    clear hLL hss
    go_wp2_with fail
    refine Calls.mono (Put_rdr R2.out HL2.out (fun hp => ⟨by have := Hb.out hp; have := PB.out; omega, by simp [blk]⟩) (by omega) LE.out SE.out) ?_
    rintro e w3 ⟨la, lc, oa, oc, m, ao3, cap3, rfl, h3⟩
    have H3 := Lib.hid h3
    have C3 := Lib.hid (PutEnd.non R2.out h3.chg C2.out (by have := PB.out; omega))
    have hl3 := HL.out.chg C3.out (fun h => h)
    have HL3 := Lib.hid hl3
    clear h3 hl3
    go_wp2_with fail
    go_loop [7, 8, 9] (fun a l i => ∃ k N T : Nat, k ≤ n ∧ a = .int .i64 (N : Int) ∧ l = .int .i64 (T : Int) ∧ i = .int .i64 (k : Int) ∧ N = (bs.take k).count 10 ∧ T = lastB 0 (bs.take k) ∧ N ≤ k ∧ T ≤ k) (fun _ _ i => n - (intOf i).toNat)
    case atStart => exact ⟨0, 0, 0, by omega, rfl, rfl, rfl, by simp, by simp [lastB], by omega, by omega⟩
    case round =>
      obtain ⟨k, N, T, hk, rfl, rfl, rfl, hN, hT, hNk, hTk⟩ := hrel
      have HN := Lib.hid hN; have HT := Lib.hid hT
      clear hN hT
      by_cases hlt : k < n
      · obtain ⟨o1, rfl, c1'⟩ := HL3.out.2.2.2.2 (by have := HL3.out.2.1; omega)
        have d1 : w3.cell? ⟨b, o1 + k, none⟩ = some (.int .u8 ((bs.getD k 0).toNat : Int)) := c1' k hlt
        clear c1'
        have hc := count_take_succ (bs := bs) (k := k) (by rw [HL.out.1]; exact hlt)
        have hl := last_take_succ (bs := bs) (k := k) (by rw [HL.out.1]; exact hlt)
        generalize bs.getD k 0 = x at d1 hc hl
        have k0 : (0 : Int) ≤ (k : Int) := by omega
        have k1 : (k : Int) < (n : Int) := by omega
        by_cases hx : x = 10
        · rw [if_pos hx] at hc hl
          subst hx
          have HC := Lib.hid hc; have HLL := Lib.hid hl
          clear hc hl
          go_wp2_with fail
          go_round
          case rel => exact ⟨k + 1, N + 1, 0, by omega, by go_num, by go_num, by go_num, by rw [HC.out, HN.out], by rw [HLL.out], by omega, by omega⟩
          case measure => simp [intOf]; omega
        · rw [if_neg hx] at hc hl
          have hx' : ((x.toNat : Int) == 10) = false := by
            rw [beq_eq_false_iff_ne]
            exact fun h => hx (UInt8.toNat_inj.1 (by simp; omega))
          have HC := Lib.hid hc; have HLL := Lib.hid hl
          clear hc hl hx
          go_wp2_with fail
          go_round
          case rel => exact ⟨k + 1, N, T + 1, by omega, by go_num, by go_num, by go_num, by rw [HC.out, HN.out]; rfl, by rw [HLL.out, HT.out], by omega, by omega⟩
          case measure => simp [intOf]; omega
      · have hkn : k = n := by omega
        have k1 : ¬ (k : Int) < (n : Int) := by omega
        have htk : bs.take k = bs := List.take_of_length_le (by rw [HL.out.1]; omega)
        have hNm : N = m := by rw [HN.out, htk, ← H3.out.ml, ← LE.out, putB_len]
        have hTs : s'.length = min T 70002 := by
          rw [← SE.out, HT.out, htk]
          exact restB_last bs (by simp)
        subst hNm
        have HTS := Lib.hid hTs
        clear hTs htk hkn
        have hok : ∀ q ∈ L, (q.2 = true → q.1 = []) ∧ q.1.length ≤ 70000 ∧ ∀ c ∈ q.1, oddB c = false := by
          intro q hq
          exact putB_ok bs [] q (by rw [LE.out]; exact hq)
        have OK := Lib.hid hok
        clear hok
        have hz : (s'.length : Int) = if 70002 < (T : Int) then 70002 else (T : Int) := by rw [HTS.out]; split <;> omega
        have q1 := H3.out.ot; have q2 := H3.out.ob
        rw [txts_tv] at q1; rw [bols_b] at q2
        obtain ⟨g1, _, V1⟩ := RdV.of_Own q1
        obtain ⟨g2, _, V2⟩ := RdV.of_Own q2
        have W1 := Lib.hid V1; have W2 := Lib.hid V2
        have HZ := Lib.hid hz
        clear q1 q2 V1 V2 hz
        by_cases h7 : 70002 < (T : Int)
        · have hz := HZ.out
          rw [if_pos h7] at hz
          have HZ2 := Lib.hid hz; clear hz HZ
          go_wp2_with (go_at_call 14; refine Calls.mono (Left_of H3.out.rdr HZ2.out) ?_; rintro e w' ⟨rfl, rfl⟩)
          have hN9 : N ≤ 200000 := by omega
          clear h7 k1 hk
          go_loop [10] (fun i => ∃ j : Nat, j ≤ N ∧ i = .int .i64 (j : Int)) (fun i => N - (intOf i).toNat)
          case atStart => exact ⟨0, by omega, rfl⟩
          case round =>
            obtain ⟨j, hj, rfl⟩ := hrel
            by_cases hjl : j < N
            · obtain ⟨o1, rfl, e1⟩ := W1.out.2.2.2.2 (by have := W1.out.2.1; omega)
              obtain ⟨o2, rfl, e2⟩ := W2.out.2.2.2.2 (by have := W2.out.2.1; omega)
              have hjL : j < L.length := by rw [H3.out.ml]; exact hjl
              obtain ⟨t, f, htf⟩ : ∃ t f, L[j] = (t, f) := ⟨L[j].1, L[j].2, rfl⟩
              have d1 : w3.cell? ⟨g1, o1 + j, none⟩ = some (.string ⟨t.toArray⟩) := by rw [e1 j hjl]; simp [hjL, htf, tv]
              have d2 : w3.cell? ⟨g2, o2 + j, none⟩ = some (.bool f) := by rw [e2 j hjl]; simp [hjL, htf]
              have hq := OK.out (t, f) (by rw [← htf]; exact List.getElem_mem hjL)
              simp only at hq
              obtain ⟨hq1, hq2, hq3⟩ := hq
              have Q3 := Lib.hid hq3
              have j0 : (0 : Int) ≤ (j : Int) := by omega
              have j1 : (j : Int) < (N : Int) := by omega
              have l7 : ¬ 70000 < (t.length : Int) := by omega
              clear e1 e2 hq3 hjL htf
              have hfin : f = false ∨ (f = true ∧ t = []) := by
                cases f with
                | false => exact .inl rfl
                | true => exact .inr ⟨rfl, hq1 rfl⟩
              clear hq1
              rcases hfin with rfl | ⟨rfl, rfl⟩
              · go_wp2_with fail
                go_loop [11] (fun i => ∃ h : Nat, h ≤ t.length ∧ i = .int .i64 (h : Int)) (fun i => t.length - (intOf i).toNat)
                case atStart => exact ⟨0, by omega, rfl⟩
                case round =>
                  obtain ⟨h, hh, rfl⟩ := hrel
                  by_cases hlt2 : h < t.length
                  · have hx : ∀ wx, (Instr.index 9 (.string ⟨t.toArray⟩) (.int .i64 h)).run Try.prog wx = .ok (.int .u8 ((t.getD h 0).toNat : Int)) wx := fun wx => run_index_txt Try.underlying9 hlt2 wx
                    have hm : t.getD h 0 ∈ t := by simp [List.getD, hlt2]
                    have ho := not_odd (Q3.out _ hm)
                    generalize t.getD h 0 = c at hx ho
                    have h1 : (h : Int) < (t.length : Int) := by omega
                    obtain ⟨ho1, ho2⟩ := ho
                    rcases ho1 with rfl | ho1
                    · go_wp2_with fail
                      go_round
                      case rel => exact ⟨h + 1, by omega, by go_num⟩
                      case measure => simp [intOf]; omega
                    · have ho3 : ¬ 126 < (c.toNat : Int) := by omega
                      have ho4 : ¬ (c.toNat : Int) < 32 := by omega
                      go_wp2_with fail
                      go_round
                      case rel => exact ⟨h + 1, by omega, by go_num⟩
                      case measure => simp [intOf]; omega
                  · have h1 : ¬ (h : Int) < (t.length : Int) := by omega
                    go_wp2_with fail
                    go_round
                    case rel => exact ⟨j + 1, by omega, by go_num⟩
                    case measure => simp [intOf]; omega
              · go_wp2_with fail
                go_loop [11] (fun i => i = .int .i64 0) (fun i => 0)
                case atStart => rfl
                case round =>
                  subst hrel
                  go_wp2_with fail
                  go_round
                  case rel => exact ⟨j + 1, by omega, by go_num⟩
                  case measure => simp [intOf]; omega
            · have j1 : ¬ (j : Int) < (N : Int) := by omega
              go_wp2_with fail
              go_ret
              exact ⟨rfl, C3.out.belowN⟩
        · have hz := HZ.out
          rw [if_neg h7] at hz
          have HZ2 := Lib.hid hz; clear hz HZ
          go_wp2_with (go_at_call 14; refine Calls.mono (Left_of H3.out.rdr HZ2.out) ?_; rintro e w' ⟨rfl, rfl⟩)
          have hN9 : N ≤ 200000 := by omega
          clear h7 k1 hk
          go_loop [10] (fun i => ∃ j : Nat, j ≤ N ∧ i = .int .i64 (j : Int)) (fun i => N - (intOf i).toNat)
          case atStart => exact ⟨0, by omega, rfl⟩
          case round =>
            obtain ⟨j, hj, rfl⟩ := hrel
            by_cases hjl : j < N
            · obtain ⟨o1, rfl, e1⟩ := W1.out.2.2.2.2 (by have := W1.out.2.1; omega)
              obtain ⟨o2, rfl, e2⟩ := W2.out.2.2.2.2 (by have := W2.out.2.1; omega)
              have hjL : j < L.length := by rw [H3.out.ml]; exact hjl
              obtain ⟨t, f, htf⟩ : ∃ t f, L[j] = (t, f) := ⟨L[j].1, L[j].2, rfl⟩
              have d1 : w3.cell? ⟨g1, o1 + j, none⟩ = some (.string ⟨t.toArray⟩) := by rw [e1 j hjl]; simp [hjL, htf, tv]
              have d2 : w3.cell? ⟨g2, o2 + j, none⟩ = some (.bool f) := by rw [e2 j hjl]; simp [hjL, htf]
              have hq := OK.out (t, f) (by rw [← htf]; exact List.getElem_mem hjL)
              simp only at hq
              obtain ⟨hq1, hq2, hq3⟩ := hq
              have Q3 := Lib.hid hq3
              have j0 : (0 : Int) ≤ (j : Int) := by omega
              have j1 : (j : Int) < (N : Int) := by omega
              have l7 : ¬ 70000 < (t.length : Int) := by omega
              clear e1 e2 hq3 hjL htf
              have hfin : f = false ∨ (f = true ∧ t = []) := by
                cases f with
                | false => exact .inl rfl
                | true => exact .inr ⟨rfl, hq1 rfl⟩
              clear hq1
              rcases hfin with rfl | ⟨rfl, rfl⟩
              · go_wp2_with fail
                go_loop [11] (fun i => ∃ h : Nat, h ≤ t.length ∧ i = .int .i64 (h : Int)) (fun i => t.length - (intOf i).toNat)
                case atStart => exact ⟨0, by omega, rfl⟩
                case round =>
                  obtain ⟨h, hh, rfl⟩ := hrel
                  by_cases hlt2 : h < t.length
                  · have hx : ∀ wx, (Instr.index 9 (.string ⟨t.toArray⟩) (.int .i64 h)).run Try.prog wx = .ok (.int .u8 ((t.getD h 0).toNat : Int)) wx := fun wx => run_index_txt Try.underlying9 hlt2 wx
                    have hm : t.getD h 0 ∈ t := by simp [List.getD, hlt2]
                    have ho := not_odd (Q3.out _ hm)
                    generalize t.getD h 0 = c at hx ho
                    have h1 : (h : Int) < (t.length : Int) := by omega
                    obtain ⟨ho1, ho2⟩ := ho
                    rcases ho1 with rfl | ho1
                    · go_wp2_with fail
                      go_round
                      case rel => exact ⟨h + 1, by omega, by go_num⟩
                      case measure => simp [intOf]; omega
                    · have ho3 : ¬ 126 < (c.toNat : Int) := by omega
                      have ho4 : ¬ (c.toNat : Int) < 32 := by omega
                      go_wp2_with fail
                      go_round
                      case rel => exact ⟨h + 1, by omega, by go_num⟩
                      case measure => simp [intOf]; omega
                  · have h1 : ¬ (h : Int) < (t.length : Int) := by omega
                    go_wp2_with fail
                    go_round
                    case rel => exact ⟨j + 1, by omega, by go_num⟩
                    case measure => simp [intOf]; omega
              · go_wp2_with fail
                go_loop [11] (fun i => i = .int .i64 0) (fun i => 0)
                case atStart => rfl
                case round =>
                  subst hrel
                  go_wp2_with fail
                  go_round
                  case rel => exact ⟨j + 1, by omega, by go_num⟩
                  case measure => simp [intOf]; omega
            · have j1 : ¬ (j : Int) < (N : Int) := by omega
              go_wp2_with fail
              go_ret
              exact ⟨rfl, C3.out.belowN⟩
end Go.Proofs.Ytjjppbfknjeddaa
