/- LinesEnds, walked. -/
import Derived.Test.YtjjppbfknjeddaaLinBs
namespace Go.Proofs.Ytjjppbfknjeddaa
open Go.RowKit Go.Shelf
set_option linter.unusedVariables false
set_option linter.unusedSimpArgs false
attribute [local go_sem ↓] Go.wp_at_zero Go.wp_at_succ
theorem fine_len (l : List UInt8) : (l.map fine).length = l.length := by simp
set_option maxRecDepth 40000 in
set_option maxHeartbeats 8000000 in
theorem LinesEnds_any {w : World} {ao : Option Addr} {n cap : Nat} {f : Nat → List UInt8} (h : BsB w ao n cap f) (both : Int) :
    Calls Try.prog 5 #[.slice ao n cap, .int .u64 both] w fun e w' => e = .returned (.bool true) ∧ Below w.heap.size w w' := by
  have HL := Lib.hid h
  clear h
  by_cases hn : 60 < n
  · skip
    have hn' : 60 < (n : Int) := by omega
    go_enter Try.func5, Try.ntmps5
    go_wp2_with fail
    refine Calls.mono (alive12_any _) ?_
    rintro e w1 ⟨rfl, hc1⟩
    have C1 := Lib.hid hc1; clear hc1
    go_wp2_with fail
    refine Calls.mono (alive12_any _) ?_
    rintro e w2 ⟨rfl, hc2⟩
    have C2 := Lib.hid (C1.out.trans hc2); clear hc2
    go_wp2_with fail
    go_ret
    exact ⟨rfl, C2.out.belowN⟩
  · have hn' : ¬ 60 < (n : Int) := by omega
    obtain ⟨i0, hi, hz0, hz1, hz2⟩ := info_parts Try.info_u8
    have Hi := Lib.hid hi; have Hz0 := Lib.hid hz0; have Hz1 := Lib.hid hz1; have Hz2 := Lib.hid hz2
    clear hi hz0 hz1 hz2
    obtain ⟨i1, hi1, hi2, hi3, hi4⟩ := info_parts Try.info_str
    have Hs1 := Lib.hid hi1; have Hs2 := Lib.hid hi2; have Hs3 := Lib.hid hi3; have Hs4 := Lib.hid hi4
    clear hi1 hi2 hi3 hi4
    go_enter Try.func5, Try.ntmps5
    go_wp2_with fail
    refine Calls.mono (alive12_any _) ?_
    rintro e w1 ⟨rfl, hc1⟩
    have C1 := Lib.hid hc1; clear hc1
    go_wp2_with fail
    go_loopw [5, 6, 7] (fun b t i wr => ∃ (j : Nat) (ab : Option Addr) (nb cb : Nat) (bl : List UInt8) (aw : Option Addr) (cw : Nat) (cr : Nat → Bool), j ≤ n ∧ b = .slice ab nb cb ∧ t = .slice aw j cw ∧ i = .int .i64 (j : Int) ∧ nb ≤ j * 202 ∧ bl = endB (fun i => (f i).map fine) cr j ∧ (∀ i, i < j → (f i).length ≤ 200) ∧ EndsM w1 wr ab nb cb bl aw j cw ((List.range j).map (fun i => (f i).map fine))) (fun _ _ i _ => n - (intOf i).toNat)
    case atStart =>
      exact ⟨0, none, 0, 0, [], none, 0, fun _ => false, by omega, rfl, rfl, rfl, by omega, rfl, fun i hi => by omega, Own.nil _ _ _ _, Own.nil _ _ _ _, fun k hk => by simp [blk] at hk, Chg.refl _ _⟩
    case round =>
      obtain ⟨j, ab, nb, cb, bl, aw, cw, cr, hj, rfl, rfl, rfl, hnb, hbl, hlen, hM⟩ := hrel
      have BL := Lib.hid hbl; have M := Lib.hid hM; have LEN := Lib.hid hlen
      clear hbl hM hlen
      by_cases hlt : j < n
      · obtain ⟨g, off, rfl, hg, hrow⟩ := (HL.out.chg C1.out).2.2 (by omega)
        obtain ⟨ra, rm, rc, rb, hcell, hrd, hrb⟩ := hrow j hlt
        obtain ⟨xs, hxs⟩ : ∃ xs, f j = xs := ⟨_, rfl⟩
        rw [hxs] at hrd
        have RX := Lib.hid hrd; have RB := Lib.hid hrb; have XS := Lib.hid hxs; have HG := Lib.hid hg; have HC := Lib.hid hcell
        have j0 : (0 : Int) ≤ (j : Int) := by omega
        have j1 : (j : Int) < (n : Int) := by omega
        clear hrow hrd hrb hxs hg hcell
        have hcell : wr.cell? ⟨g, off + j, none⟩ = some (.slice ra rm rc) := (M.out.chg.cell (p := ⟨g, off + j, none⟩) HG.out (fun h => h)).trans HC.out
        by_cases hbig : 200 < rm
        · skip
          have hb1 : 200 < (rm : Int) := by omega
          go_wp2_with fail
          go_ret
          exact ⟨rfl, (C1.out.trans M.out.chg).belowN⟩
        · have hb1 : ¬ 200 < (rm : Int) := by omega
          go_wp2_with fail
          clear hcell
          go_loopw [5, 9] (fun b k ws => ∃ (h nb2 : Nat) (ab2 : Option Addr) (cb2 : Nat), h ≤ rm ∧ b = .slice ab2 nb2 cb2 ∧ k = .int .i64 (h : Int) ∧ nb2 = nb + h ∧ EndsM w1 ws ab2 nb2 cb2 (bl ++ (xs.take h).map fine) aw j cw ((List.range j).map (fun i => (f i).map fine))) (fun _ k _ => rm - (intOf k).toNat)
          case atStart => exact ⟨0, nb, ab, cb, by omega, rfl, rfl, rfl, by simpa using M.out⟩
          case round =>
            obtain ⟨h, nb2, ab2, cb2, hh, rfl, rfl, hn2, hM2⟩ := hrel
            have N2 := Lib.hid hn2; have M2 := Lib.hid hM2
            have hnb2 : nb2 ≤ 20000 := by omega
            clear hM2 hn2
            have hcell : wr.cell? ⟨g, off + j, none⟩ = some (.slice ra rm rc) := (M2.out.chg.cell (p := ⟨g, off + j, none⟩) HG.out (fun h => h)).trans HC.out
            have hrd := RX.out.same (fun hp => M2.out.chg.block _ (RB.out hp) (fun h => h))
            by_cases hlt2 : h < rm
            · obtain ⟨ro, rfl, hx⟩ := hrd.2.2.2.2 (by have := hrd.2.1; omega)
              have d1 : wr.cell? ⟨rb, ro + h, none⟩ = some (.int .u8 ((xs.getD h 0).toNat : Int)) := hx h hlt2
              have htk : (xs.take (h + 1)).map fine = (xs.take h).map fine ++ [fine (xs.getD h 0)] := by
                have hl : h < xs.length := by rw [hrd.1]; exact hlt2
                rw [List.take_succ_eq_append_getElem hl, List.map_append, List.map_cons, List.map_nil, show xs.getD h 0 = xs[h] by simp [List.getD, hl]]
              have TK := Lib.hid htk
              clear hx hrd htk
              obtain ⟨x, hx⟩ : ∃ x, xs.getD h 0 = x := ⟨_, rfl⟩
              rw [hx] at d1 TK
              clear hx
              have hlt3 := x.toNat_lt
              have hw3 : IntKind.u8.wrap ((x.toNat : Int).tmod 95) = ((x.toNat % 95 : Nat) : Int) := by rw [Int.tmod_eq_emod_of_nonneg (by omega), IntWalk.u8_in _ ⟨by omega, by omega⟩]; omega
              have hw4 : IntKind.u8.wrap (32 + ((x.toNat % 95 : Nat) : Int)) = ((fine x).toNat : Int) := by rw [IntWalk.u8_in _ ⟨by omega, by omega⟩, fine_nat]; omega
              have h0 : (0 : Int) ≤ (h : Int) := by omega
              have h1 : (h : Int) < (rm : Int) := by omega
              go_wp2_with (at_builtin; refine wpList_append_Own rfl _ _ 22 22 rfl w1.heap.size 5 1 1 i0 (.int .u8 0) Try.underlying22 Hi.out Hz0.out Hz1.out rfl Hz2.out ab2 nb2 cb2 _ rfl (M2.out.ob.alloc _) _ 1 _ rfl (Src.cells Try.underlying22 (heap_alloc_new _ _) 1 1 1 (by rfl) (by simp [Value.oneCell'])) (by unfold maxLen; omega) (by omega) (by have := M2.out.chg.size; simp; omega) ?_; intro a3 c3 w3 hown hchg hb _; have hm := EndsM.bytes (news := [fine x]) M2.out ((Chg.refl _ _).alloc _) (by simpa [bv, fine_nat] using hown) (fun _ h => h.1) hchg hb; have M3 := Lib.hid hm; clear hown hchg hb hm)
              go_roundw
              case rel =>
                have hm := M3.out
                rw [List.append_assoc, ← TK.out] at hm
                exact ⟨h + 1, nb2 + 1, a3, c3, by omega, rfl, by go_num, by have := N2.out; omega, hm⟩
              case measure => simp [intOf]; omega
            · have h1 : ¬ (h : Int) < (rm : Int) := by omega
              obtain rfl : h = rm := by omega
              have htk : xs.take h = xs := List.take_of_length_le (by rw [RX.out.1]; omega)
              have hm := M2.out
              rw [htk] at hm
              have M3 := Lib.hid hm
              obtain ⟨gb, _, hrd7⟩ := Rd.of_Own hm.ob
              have hbn : bl.length = nb := by have := (Rd.of_Own M.out.ob).choose_spec.2.1; exact this
              obtain ⟨a6, sl6, rd6⟩ := hrd7.from_ (P := Try.prog) (t := 22) Try.underlying22 (by kernel_rfl) .i64 (k := nb) (by have := N2.out; omega)
              rw [List.drop_left' hbn] at rd6
              have cv7 : (convert 22 9 (.slice a6 (nb2 - nb) (cb2 - nb))).run Try.prog wr = .ok (.string ⟨(xs.map fine).toArray⟩) wr := rd6.string Try.underlying22 Try.underlying5 Try.underlying9
              generalize nb2 - nb = n6 at sl6 cv7
              generalize cb2 - nb = c6 at sl6 cv7
              clear hm htk hrd7 rd6 hbn hrd
              obtain ⟨ft, hft⟩ : ∃ ft, xs.map fine = ft := ⟨_, rfl⟩
              have FT := Lib.hid hft
              rw [hft] at cv7 M3
              clear hft
              have hh2 : (h : Int) ≤ 200 := by omega
              have hnb3 : nb2 ≤ 20000 := by omega
              obtain ⟨c, hc⟩ : ∃ c : Bool, (bits BinOp.and IntKind.u64 (both / 2 ^ j) 1 == 1) = c := ⟨_, rfl⟩
              cases c
              · skip
                go_wp2_with (first
                | (at_builtin; refine wpList_append_Own rfl _ _ 27 27 rfl w1.heap.size 9 1 16 i1 (.string ⟨#[]⟩) Try.underlying27 Hs1.out Hs2.out Hs3.out rfl Hs4.out aw j cw _ rfl (M3.out.ow.alloc _) _ 1 _ rfl (Src.cells Try.underlying27 (heap_alloc_new _ _) 1 1 1 (by rfl) (by simp [Value.oneCell'])) (by unfold maxLen; omega) (by omega) (by have := M3.out.chg.size; simp; omega) ?_; intro a4 c4 w4 hown hchg hb _; have hm := EndsM.text (x := ft) M3.out ((Chg.refl _ _).alloc _) (by simpa [tv] using hown) (fun _ h => h.1) hchg hb; have M4 := Lib.hid hm; clear hown hchg hb hm)
                | (at_builtin; refine wpList_append_Own rfl _ _ 22 22 rfl w1.heap.size 5 1 1 i0 (.int .u8 0) Try.underlying22 Hi.out Hz0.out Hz1.out rfl Hz2.out ab2 nb2 cb2 _ rfl (M4.out.ob.alloc _) _ 1 _ rfl (Src.cells Try.underlying22 (heap_alloc_new _ _) 1 1 1 (by rfl) (by simp [Value.oneCell'])) (by unfold maxLen; omega) (by omega) (by have := M4.out.chg.size; simp; omega) ?_; intro a3 c3 w3 hown hchg hb _; have hm := EndsM.bytes (news := [10]) M4.out ((Chg.refl _ _).alloc _) (by simpa [bv, fine_nat] using hown) (fun _ h => h.1) hchg hb; have M5 := Lib.hid hm; clear hown hchg hb hm)
                | fail)
                go_roundw
                case rel =>
                  have hm := M5.out
                  have e1 : (List.range j).map (fun i => (f i).map fine) ++ [ft] = (List.range (j + 1)).map (fun i => (f i).map fine) := by rw [List.range_succ, List.map_append, List.map_singleton, XS.out, FT.out]
                  rw [e1] at hm
                  refine ⟨j + 1, a3, (nb2 + 1), c3, _, a4, c4, fun i => if i = j then false else cr i, by omega, rfl, rfl, by go_num, by have := N2.out; omega, ?_, fun i hi => ?_, hm⟩
                  · rw [endB_set, ← BL.out, XS.out, FT.out]; simp
                  · by_cases e : i = j
                    · rw [e, XS.out, RX.out.1]; omega
                    · exact LEN.out i (by omega)
                case measure => simp [intOf]; omega
              · skip
                go_wp2_with (first
                | (at_builtin; refine wpList_append_Own rfl _ _ 27 27 rfl w1.heap.size 9 1 16 i1 (.string ⟨#[]⟩) Try.underlying27 Hs1.out Hs2.out Hs3.out rfl Hs4.out aw j cw _ rfl (M3.out.ow.alloc _) _ 1 _ rfl (Src.cells Try.underlying27 (heap_alloc_new _ _) 1 1 1 (by rfl) (by simp [Value.oneCell'])) (by unfold maxLen; omega) (by omega) (by have := M3.out.chg.size; simp; omega) ?_; intro a4 c4 w4 hown hchg hb _; have hm := EndsM.text (x := ft) M3.out ((Chg.refl _ _).alloc _) (by simpa [tv] using hown) (fun _ h => h.1) hchg hb; have M4 := Lib.hid hm; clear hown hchg hb hm)
                | (at_builtin; refine wpList_append_Own rfl _ _ 22 22 rfl w1.heap.size 5 1 1 i0 (.int .u8 0) Try.underlying22 Hi.out Hz0.out Hz1.out rfl Hz2.out ab2 nb2 cb2 _ rfl (M4.out.ob.alloc _) _ 1 _ rfl (Src.cells Try.underlying22 (heap_alloc_new _ _) 1 1 1 (by rfl) (by simp [Value.oneCell'])) (by unfold maxLen; omega) (by omega) (by have := M4.out.chg.size; simp; omega) ?_; intro a3 c3 w3 hown hchg hb _; have hm := EndsM.bytes (news := [13]) M4.out ((Chg.refl _ _).alloc _) (by simpa [bv, fine_nat] using hown) (fun _ h => h.1) hchg hb; have M5 := Lib.hid hm; clear hown hchg hb hm)
                | (at_builtin; refine wpList_append_Own rfl _ _ 22 22 rfl w1.heap.size 5 1 1 i0 (.int .u8 0) Try.underlying22 Hi.out Hz0.out Hz1.out rfl Hz2.out a3 (nb2 + 1) c3 _ rfl (M5.out.ob.alloc _) _ 1 _ rfl (Src.cells Try.underlying22 (heap_alloc_new _ _) 1 1 1 (by rfl) (by simp [Value.oneCell'])) (by unfold maxLen; omega) (by omega) (by have := M5.out.chg.size; simp; omega) ?_; intro a3 c3 w3 hown hchg hb _; have hm := EndsM.bytes (news := [10]) M5.out ((Chg.refl _ _).alloc _) (by simpa [bv, fine_nat] using hown) (fun _ h => h.1) hchg hb; have M6 := Lib.hid hm; clear hown hchg hb hm)
                | fail)
                go_roundw
                case rel =>
                  have hm := M6.out
                  have e1 : (List.range j).map (fun i => (f i).map fine) ++ [ft] = (List.range (j + 1)).map (fun i => (f i).map fine) := by rw [List.range_succ, List.map_append, List.map_singleton, XS.out, FT.out]
                  rw [e1] at hm
                  refine ⟨j + 1, a3, (nb2 + 1 + 1), c3, _, a4, c4, fun i => if i = j then true else cr i, by omega, rfl, rfl, by go_num, by have := N2.out; omega, ?_, fun i hi => ?_, hm⟩
                  · rw [endB_set, ← BL.out, XS.out, FT.out]; simp
                  · by_cases e : i = j
                    · rw [e, XS.out, RX.out.1]; omega
                    · exact LEN.out i (by omega)
                case measure => simp [intOf]; omega
      · have j1 : ¬ (j : Int) < (n : Int) := by omega
        obtain rfl : j = n := by omega
        have hnb9 : nb ≤ 20000 := by omega
        obtain ⟨gb, hgb, hrd⟩ := Rd.of_Own M.out.ob
        have RB := Lib.hid hrd
        have GB := Lib.hid (show 0 < cb → gb < wr.heap.size from fun hp => (M.out.ob.lt gb (hgb hp)).2)
        have hL := endB_fine (f := fun i => (f i).map fine) (cr := cr) (n := j) (fun i hi => ⟨fine_map _, by have := LEN.out i hi; simp; omega⟩)
        rw [← BL.out] at hL
        obtain ⟨L, hLL⟩ : ∃ L, (List.range j).map (fun i => ((f i).map fine, false)) = L := ⟨_, rfl⟩
        rw [hLL] at hL
        have P1 := Lib.hid hL.1; have P2 := Lib.hid hL.2; have LE := Lib.hid hLL
        clear hgb hrd hL hLL
        go_wp2_with fail
        refine Calls.mono (New_any _) ?_
        rintro e w4 ⟨rfl, hr4, hc4⟩
        obtain ⟨r, hrr⟩ : ∃ r, r = wr.heap.size + 1 := ⟨_, rfl⟩
        obtain ⟨p, hpp⟩ : ∃ p, p = wr.heap.size := ⟨_, rfl⟩
        have PB := Lib.hid (show p = wr.heap.size from hpp)
        rw [← hrr, ← hpp] at hr4
        rw [← hrr]
        have R4 := Lib.hid hr4; have C4 := Lib.hid hc4
        clear hr4 hc4 hrr hpp
        go_wp2_with fail
        refine Calls.mono (Put_rdr R4.out (RB.out.same (fun hp => C4.out.block _ (GB.out (by have := RB.out.2.1; omega)) (fun h => h))) (fun hp => ⟨by have h1 := GB.out (by have := RB.out.2.1; omega); have h2 := PB.out; omega, by simp [blk]⟩) (by omega) P1.out P2.out) ?_
        rintro e w5 ⟨la, lc, oa, oc, m, ao5, cap5, rfl, h5⟩
        have H5 := Lib.hid h5
        have C5 := Lib.hid (PutEnd.non R4.out h5.chg C4.out (by have := PB.out; omega))
        clear h5
        have q1 := H5.out.ot; have q2 := H5.out.ob
        rw [txts_tv] at q1; rw [bols_b] at q2
        obtain ⟨g1, _, V1⟩ := RdV.of_Own q1
        obtain ⟨g2, _, V2⟩ := RdV.of_Own q2
        obtain ⟨g3, _, V3⟩ := RdV.of_Own (M.out.ow.chg C5.out (fun _ _ h => h))
        have W1 := Lib.hid V1; have W2 := Lib.hid V2; have W3 := Lib.hid V3
        have hmm : m ≤ 60 := by have := H5.out.ml; rw [← LE.out] at this; simp at this; omega
        clear q1 q2 V1 V2 V3
        go_wp2_with fail
        go_loop [14] (fun i => ∃ q : Nat, q ≤ m ∧ i = .int .i64 (q : Int)) (fun i => m - (intOf i).toNat)
        case atStart => exact ⟨0, by omega, rfl⟩
        case round =>
          obtain ⟨q, hq, rfl⟩ := hrel
          by_cases hql : q < m
          · obtain ⟨o2, rfl, e2⟩ := W2.out.2.2.2.2 (by have := W2.out.2.1; omega)
            have hqL : q < L.length := by rw [H5.out.ml]; exact hql
            have d2 : w5.cell? ⟨g2, o2 + q, none⟩ = some (.bool false) := by
              rw [e2 q hql, ← LE.out]; rw [← LE.out] at hqL; simp at hqL; simp [hqL]
            have q0 : (0 : Int) ≤ (q : Int) := by omega
            have q1 : (q : Int) < (m : Int) := by omega
            clear e2 hqL
            go_wp2_with fail
            go_round
            case rel => exact ⟨q + 1, by omega, by go_num⟩
            case measure => simp [intOf]; omega
          · have q1 : ¬ (q : Int) < (m : Int) := by omega
            go_wp2_with fail
            refine Calls.mono (SameTexts_of (b := true) W1.out W3.out (by rw [← LE.out]; simp)) ?_
            rintro e w6 ⟨rfl, hc6⟩
            have C6 := Lib.hid hc6; clear hc6
            go_wp2_with fail
            refine Calls.mono (Left_of (H5.out.rdr.keep C6.out) (z := 0) rfl) ?_
            rintro e w' ⟨rfl, rfl⟩
            go_wp2_with fail
            go_ret
            exact ⟨rfl, (C1.out.trans (M.out.chg.trans (C5.out.trans C6.out))).belowN⟩
end Go.Proofs.Ytjjppbfknjeddaa
