/- LinesBad, walked. -/
import Derived.Test.YtjjppbfknjeddaaLinBadP
import Derived.Deep.RegionHeld3
namespace Go.Proofs.Ytjjppbfknjeddaa
open Go.RowKit Go.Shelf
set_option linter.unusedVariables false
set_option linter.unusedSimpArgs false
attribute [local go_sem ↓] Go.wp_at_zero Go.wp_at_succ
set_option maxRecDepth 40000 in
set_option maxHeartbeats 8000000 in
theorem LinesBad_any {w : World} {ao : Option Addr} {n cap : Nat} {f : Nat → List UInt8} (h : BsB w ao n cap f) (c : UInt8) {cs : List UInt8} (hcs : cs.length = 2) :
    Calls Try.prog 8 #[.slice ao n cap, .int .u8 (c.toNat : Int), .agg (cs.map bv).toArray] w fun e w' => e = .returned (.bool true) ∧ Below w.heap.size w w' := by
  obtain ⟨a0, a1, rfl⟩ : ∃ a0 a1, cs = [a0, a1] := by
    match cs, hcs with
    | [x, y], _ => exact ⟨x, y, rfl⟩
  clear hcs
  simp only [List.map_cons, List.map_nil, bv]
  have HL := Lib.hid h
  clear h
  by_cases he : n < 3 ∨ 30 < n ∨ c = 10
  · skip
    by_cases q1 : n < 3
    · have h1 : (n : Int) < 3 := by omega
      go_enter Try.func8, Try.ntmps8
      go_wp2_with fail
      refine Calls.mono (alive12_any _) ?_
      rintro e w1 ⟨rfl, hc1⟩
      have C1 := Lib.hid ((Chg.alloc (Chg.refl Non w) _).trans hc1); clear hc1
      go_wp2_with fail
      refine Calls.mono (alive12_any _) ?_
      rintro e w2 ⟨rfl, hc2⟩
      have C2 := Lib.hid (C1.out.trans hc2); clear hc2
      go_wp2_with fail
      go_ret
      exact ⟨rfl, C2.out.belowN⟩
    · by_cases q2 : 30 < n
      · have h1 : ¬ (n : Int) < 3 := by omega
        have h2 : 30 < (n : Int) := by omega
        go_enter Try.func8, Try.ntmps8
        go_wp2_with fail
        refine Calls.mono (alive12_any _) ?_
        rintro e w1 ⟨rfl, hc1⟩
        have C1 := Lib.hid ((Chg.alloc (Chg.refl Non w) _).trans hc1); clear hc1
        go_wp2_with fail
        refine Calls.mono (alive12_any _) ?_
        rintro e w2 ⟨rfl, hc2⟩
        have C2 := Lib.hid (C1.out.trans hc2); clear hc2
        go_wp2_with fail
        go_ret
        exact ⟨rfl, C2.out.belowN⟩
      · obtain rfl : c = 10 := by
          rcases he with h | h | h
          · omega
          · omega
          · exact h
        have h1 : ¬ (n : Int) < 3 := by omega
        have h2 : ¬ 30 < (n : Int) := by omega
        go_enter Try.func8, Try.ntmps8
        go_wp2_with fail
        refine Calls.mono (alive12_any _) ?_
        rintro e w1 ⟨rfl, hc1⟩
        have C1 := Lib.hid ((Chg.alloc (Chg.refl Non w) _).trans hc1); clear hc1
        go_wp2_with fail
        refine Calls.mono (alive12_any _) ?_
        rintro e w2 ⟨rfl, hc2⟩
        have C2 := Lib.hid (C1.out.trans hc2); clear hc2
        go_wp2_with fail
        go_ret
        exact ⟨rfl, C2.out.belowN⟩
  · have hn3 : 3 ≤ n ∧ n ≤ 30 ∧ c ≠ 10 := by
      refine ⟨?_, ?_, fun e => he (.inr (.inr e))⟩
      · exact Nat.le_of_not_lt fun e => he (.inl e)
      · exact Nat.le_of_not_lt fun e => he (.inr (.inl e))
    obtain ⟨hn3, hn30, hc10⟩ := hn3
    have h1 : ¬ (n : Int) < 3 := by omega
    have h2 : ¬ 30 < (n : Int) := by omega
    have h3 : ((c.toNat : Int) == 10) = false := by
      rw [beq_eq_false_iff_ne]
      exact fun h => hc10 (UInt8.toNat_inj.1 (by simp; omega))
    have NC := Lib.hid hc10
    clear he hc10
    obtain ⟨i0, hi, hz0, hz1, hz2⟩ := info_parts Try.info_u8
    have Hi := Lib.hid hi; have Hz0 := Lib.hid hz0; have Hz1 := Lib.hid hz1; have Hz2 := Lib.hid hz2
    clear hi hz0 hz1 hz2
    obtain ⟨i1, hi1, hi2, hi3, hi4⟩ := info_parts Try.info_str
    have Hs1 := Lib.hid hi1; have Hs2 := Lib.hid hi2; have Hs3 := Lib.hid hi3; have Hs4 := Lib.hid hi4
    clear hi1 hi2 hi3 hi4
    obtain ⟨k, hk⟩ : ∃ k : Nat, a0.toNat % n = k := ⟨_, rfl⟩
    have hkn : k < n := by rw [← hk]; exact Nat.mod_lt _ (by omega)
    have hl0 := a0.toNat_lt; have hl1 := a1.toNat_lt
    have hwa : wrap64 (a0.toNat : Int) = (a0.toNat : Int) := by unfold wrap64; omega
    have hwb : wrap64 (a1.toNat : Int) = (a1.toNat : Int) := by unfold wrap64; omega
    have hkt : (a0.toNat : Int).tmod (n : Int) = (k : Int) := by rw [← hk, Int.tmod_eq_emod_of_nonneg (by omega)]; simp
    have hn0 : ¬ (n : Int) = 0 := by omega
    clear hk
    go_enter Try.func8, Try.ntmps8
    go_wp2_with fail
    refine Calls.mono (alive12_any _) ?_
    rintro e w1 ⟨rfl, hc1⟩
    have C1 := Lib.hid ((Chg.alloc (Chg.refl Non w) _).trans hc1)
    have d0 : w1.cell? ⟨w.heap.size, 0, none⟩ = some (.int .u8 (a0.toNat : Int)) := by
      rw [hc1.cell (p := ⟨w.heap.size, 0, none⟩) (by simp) (fun h => h)]; exact cell_of_row _ _ 0 _ _ _ (heap_alloc_new w _)
    have d1 : w1.cell? ⟨w.heap.size, 1, none⟩ = some (.int .u8 (a1.toNat : Int)) := by
      rw [hc1.cell (p := ⟨w.heap.size, 1, none⟩) (by simp) (fun h => h)]; exact cell_of_row _ _ 1 _ _ _ (heap_alloc_new w _)
    have hz := hc1.size
    have Z1 := Lib.hid (show w.heap.size < w1.heap.size by simp at hz; omega)
    have D1 := Lib.hid d1
    clear hc1 d1 hz
    go_wp2_with fail
    clear d0 hkt hwa hl0
    go_loopw [8, 9, 10] (fun b t i wr => ∃ (j : Nat) (ab : Option Addr) (nb cb : Nat) (bl : List UInt8) (aw : Option Addr) (cw : Nat), j ≤ n ∧ b = .slice ab nb cb ∧ t = .slice aw j cw ∧ i = .int .i64 (j : Int) ∧ nb ≤ j * 103 ∧ bl = endB (badF f c k a1.toNat) (fun _ => false) j ∧ (∀ i, i < j → (f i).length ≤ 100) ∧ EndsM w1 wr ab nb cb bl aw j cw ((List.range j).map (badF f c k a1.toNat))) (fun _ _ i _ => n - (intOf i).toNat)
    case atStart =>
      exact ⟨0, none, 0, 0, [], none, 0, by omega, rfl, rfl, rfl, by omega, rfl, fun i hi => by omega, Own.nil _ _ _ _, Own.nil _ _ _ _, fun k hk => by simp [blk] at hk, Chg.refl _ _⟩
    case round =>
      obtain ⟨j, ab, nb, cb, bl, aw, cw, hj, rfl, rfl, rfl, hnb, hbl, hlen, hM⟩ := hrel
      have BL := Lib.hid hbl; have M := Lib.hid hM; have LEN := Lib.hid hlen
      clear hbl hM hlen
      by_cases hlt : j < n
      · obtain ⟨g, off, rfl, hg, hrow⟩ := (HL.out.chg C1.out).2.2 (by omega)
        obtain ⟨ra, rm, rc, rb, hcell, hrd, hrb⟩ := hrow j hlt
        obtain ⟨xs, hxs⟩ : ∃ xs, f j = xs := ⟨_, rfl⟩
        rw [hxs] at hrd
        have RX := Lib.hid hrd; have RB := Lib.hid hrb; have XS := Lib.hid hxs; have HG := Lib.hid hg; have HC := Lib.hid hcell
        have j0 : (0 : Int) ≤ (j : Int) := by omega
        have j1 : (j : Int) < (n : Int) := by omega
        clear hrow hrd hrb hxs hg hcell
        have hcell : wr.cell? ⟨g, off + j, none⟩ = some (.slice ra rm rc) := (M.out.chg.cell (p := ⟨g, off + j, none⟩) HG.out (fun h => h)).trans HC.out
        by_cases hbig : 100 < rm
        · skip
          have hb1 : 100 < (rm : Int) := by omega
          go_wp2_with fail
          go_ret
          exact ⟨rfl, (C1.out.trans M.out.chg).belowN⟩
        · have hb1 : ¬ 100 < (rm : Int) := by omega
          go_wp2_with fail
          clear hcell
          obtain ⟨w2, hw2⟩ : ∃ w2, w2 = wr := ⟨_, rfl⟩
          rw [← hw2] at M ⊢
          clear hw2
          go_loopw [11, 12] (fun s q ws => ∃ (h : Nat) (sa : Option Addr) (sc : Nat), h ≤ rm ∧ s = .slice sa h sc ∧ q = .int .i64 (h : Int) ∧ Own ws w2.heap.size 5 1 sa h sc (((xs.take h).map fine).map bv) ∧ Chg Non w2 ws) (fun _ q _ => rm - (intOf q).toNat)
          case atStart => exact ⟨0, none, 0, by omega, rfl, rfl, Own.nil _ _ _ _, Chg.refl _ _⟩
          case round =>
            obtain ⟨h, sa, sc, hh, rfl, rfl, hO, hC⟩ := hrel
            have OO := Lib.hid hO; have CC := Lib.hid hC
            clear hO hC
            have hcell : wr.cell? ⟨g, off + j, none⟩ = some (.slice ra rm rc) := ((M.out.chg.trans CC.out).cell (p := ⟨g, off + j, none⟩) HG.out (fun h => h)).trans HC.out
            have hrd := RX.out.same (fun hp => (M.out.chg.trans CC.out).block _ (RB.out hp) (fun h => h))
            by_cases hlt2 : h < rm
            · obtain ⟨ro, rfl, hx⟩ := hrd.2.2.2.2 (by have := hrd.2.1; omega)
              have e1 : wr.cell? ⟨rb, ro + h, none⟩ = some (.int .u8 ((xs.getD h 0).toNat : Int)) := hx h hlt2
              have htk : (xs.take (h + 1)).map fine = (xs.take h).map fine ++ [fine (xs.getD h 0)] := by
                have hl : h < xs.length := by rw [hrd.1]; exact hlt2
                rw [List.take_succ_eq_append_getElem hl, List.map_append, List.map_cons, List.map_nil, show xs.getD h 0 = xs[h] by simp [List.getD, hl]]
              have TK := Lib.hid htk
              clear hx hrd htk
              obtain ⟨x, hx⟩ : ∃ x, xs.getD h 0 = x := ⟨_, rfl⟩
              rw [hx] at e1 TK
              clear hx
              have hlt3 := x.toNat_lt
              have h0 : (0 : Int) ≤ (h : Int) := by omega
              have h1 : (h : Int) < (rm : Int) := by omega
              go_wp2_with (at_builtin; refine wpList_append_Own rfl _ _ 22 22 rfl w2.heap.size 5 1 1 i0 (.int .u8 0) Try.underlying22 Hi.out Hz0.out Hz1.out rfl Hz2.out sa h sc _ rfl (OO.out.alloc _) _ 1 _ rfl (Src.cells Try.underlying22 (heap_alloc_new _ _) 1 1 1 (by rfl) (by simp [Value.oneCell'])) (by unfold maxLen; omega) (by omega) (by have := CC.out.size; simp; omega) ?_; intro a3 c3 w3 hown hchg hb _; have O3 := Lib.hid hown; have C3 := Lib.hid ((CC.out.alloc _).next hchg (fun i hi e => by have := (OO.out.lt i e.1).1; omega)); clear hown hchg hb)
              go_roundw
              case rel => exact ⟨h + 1, a3, c3, by omega, rfl, by go_num, by rw [TK.out]; simpa [bv, fine_nat] using O3.out, C3.out⟩
              case measure => simp [intOf]; omega
            · have h1 : ¬ (h : Int) < (rm : Int) := by omega
              obtain rfl : h = rm := by omega
              have htk : xs.take h = xs := List.take_of_length_le (by rw [RX.out.1]; omega)
              have ho := OO.out
              rw [htk] at ho
              have OS := Lib.hid ho
              clear htk ho hrd
              by_cases hjk : j = k
              · subst hjk
                obtain ⟨n1, hn1⟩ : ∃ n1, a1.toNat % (h + 1) = n1 := ⟨_, rfl⟩
                have hn1h : n1 ≤ h := by rw [← hn1]; have := Nat.mod_lt a1.toNat (show h + 1 > 0 by omega); omega
                have hkt2 : (a1.toNat : Int).tmod ((h : Int) + 1) = (n1 : Int) := by rw [← hn1, Int.tmod_eq_emod_of_nonneg (by omega)]; push_cast; rfl
                have hz1 : ¬ ((h : Int) + 1) = 0 := by omega
                have e7 : wr.cell? ⟨w.heap.size, 1, none⟩ = some (.int .u8 (a1.toNat : Int)) := ((M.out.chg.trans CC.out).cell (p := ⟨w.heap.size, 1, none⟩) Z1.out (fun h => h)).trans D1.out
                have N1 := Lib.hid hn1
                clear hn1
                obtain ⟨fs, hfs⟩ : ∃ fs, xs.map fine = fs := ⟨_, rfl⟩
                rw [hfs] at OS
                obtain ⟨gs, hgs, hrs⟩ := Rd.of_Own OS.out
                obtain ⟨slU, rdU⟩ := hrs.upto (P := Try.prog) (t := 22) Try.underlying22 (by kernel_rfl) .i64 (m := n1) hn1h
                obtain ⟨a6, slF, rdF⟩ := hrs.from_ (P := Try.prog) (t := 22) Try.underlying22 (by kernel_rfl) .i64 (k := n1) hn1h
                have RU : Hid (∀ w', Chg Non wr w' → Rd w' gs sa n1 sc (fs.take n1)) := Lib.hid (fun w' hc => rdU.chg hc (fun h => h))
                have RF : Hid (∀ w', Chg Non wr w' → Rd w' gs a6 (h - n1) (sc - n1) (fs.drop n1)) := Lib.hid (fun w' hc => rdF.chg hc (fun h => h))
                have FS := Lib.hid hfs
                have hz3 : n1 + 1 + (h - n1) = h + 1 := by omega
                generalize hnF : h - n1 = nF at slF rdF RF hz3
                generalize sc - n1 = cF at slF rdF RF
                have NF := Lib.hid hnF
                clear rdU rdF hfs hnF hgs hrs
                go_wp2_with fail
                have hcs := CC.out.size
                go_region_law ((first
                  | (refine step_append_Own (by rfl) _ _ 22 22 (by rfl) wr.heap.size 5 1 1 i0 (.int .u8 0) Try.underlying22 Hi.out Hz0.out Hz1.out rfl Hz2.out a8 (n1 + 1) c8 ((fs.take n1).map bv ++ [.int .u8 (c.toNat : Int)]) (by rfl) O8.out (.slice a6 nF cF) nF ((fs.drop n1).map bv) (by rfl) (Rd.src (RF.out _ cg8) Try.underlying22) (by unfold maxLen; omega) (by omega) (by have := cg8.size; omega) ?_; intro a9 c9 w9 hown9 hchg9 hb9 _; have O9 := Lib.hid hown9; have cg9 : Chg Non wr w9 := (Chg.next cg8 hchg9 (fun i hi e => by have := (O8.out.lt i e.1).1; omega)); clear hown9 hchg9 hb9)
                  | (refine step_append_Own (by rfl) _ _ 22 22 (by rfl) wr.heap.size 5 1 1 i0 (.int .u8 0) Try.underlying22 Hi.out Hz0.out Hz1.out rfl Hz2.out a7 n1 c7 ((fs.take n1).map bv) (by rfl) (O7.out.alloc _) (.slice (some ⟨w7.heap.size, 0, none⟩) 1 1) 1 [.int .u8 (c.toNat : Int)] (by rfl) (Src.cells Try.underlying22 (heap_alloc_new w7 (.cells #[.int .u8 (c.toNat : Int)] 5 (0, 0))) 1 1 1 (by rfl) (by simp [Value.oneCell'])) (by unfold maxLen; omega) (by omega) (by have := cg7.size; simp <;> omega) ?_; intro a8 c8 w8 hown8 hchg8 hb8 _; have O8 := Lib.hid hown8; have cg8 : Chg Non wr w8 := (Chg.next (Chg.alloc cg7 _) hchg8 (fun i hi e => by have := (O7.out.lt i e.1).1; omega)); clear hown8 hchg8 hb8)
                  | (refine step_append_Own (by rfl) _ _ 22 22 (by rfl) wr.heap.size 5 1 1 i0 (.int .u8 0) Try.underlying22 Hi.out Hz0.out Hz1.out rfl Hz2.out a7 n1 c7 ((fs.take n1).map bv) (by rfl) O7.out (.slice (some ⟨wr.heap.size, 0, none⟩) 1 1) 1 [.int .u8 (c.toNat : Int)] (by rfl) (Src.cells Try.underlying22 L7.out 1 1 1 (by rfl) (by simp [Value.oneCell'])) (by unfold maxLen; omega) (by omega) (by have := cg7.size; simp <;> omega) ?_; intro a8 c8 w8 hown8 hchg8 hb8 _; have O8 := Lib.hid hown8; have cg8 : Chg Non wr w8 := (Chg.next cg7 hchg8 (fun i hi e => by have := (O7.out.lt i e.1).1; omega)); clear hown8 hchg8 hb8)
                  | (refine step_append_Own (by rfl) _ _ 22 22 (by rfl) wr.heap.size 5 1 1 i0 (.int .u8 0) Try.underlying22 Hi.out Hz0.out Hz1.out rfl Hz2.out none 0 0 [] (by rfl) (Own.nil _ _ _ _) _ n1 _ (by rfl) (Rd.src (RU.out _ (by simp)) Try.underlying22) (by unfold maxLen; omega) (by omega) (by simp <;> omega) ?_; intro a7 c7 w7 hown7 hchg7 hb7 _; rw [Nat.zero_add, List.nil_append] at hown7; rw [Nat.zero_add]; have O7 := Lib.hid hown7; have cg7 : Chg Non wr w7 := (Chg.next (by simp) hchg7 (fun i hi e => by simp [blk] at e)); (try have L7 := Lib.hid ((hchg7.block wr.heap.size (by simp) (fun e => by simp [blk] at e)).trans (heap_alloc_new wr _))); clear hown7 hchg7 hb7)
                  | fail))
                all_goals
                  have ho := O9.out.mono hcs
                  rw [hz3] at ho
                  obtain ⟨n9, hn9⟩ : ∃ n9, h + 1 = n9 := ⟨_, rfl⟩
                  rw [hn9] at ho ⊢
                  have N9 := Lib.hid hn9
                  have n9b : n9 ≤ 101 := by omega
                  have hnb2 : nb ≤ 3090 := by omega
                  have CW := Lib.hid (CC.out.trans cg9)
                  have O9b := Lib.hid ho
                  clear ho O9 O8 O7 cg9 cg8 cg7 hz3 RU RF hz1 hkt2 e7 OS OO CC hcs slU slF hn9
                  obtain ⟨tt, htt⟩ : ∃ tt, fs.take n1 ++ [c] ++ fs.drop n1 = tt := ⟨_, rfl⟩
                  have ho2 := O9b.out
                  rw [show (fs.take n1).map bv ++ [Value.int .u8 (c.toNat : Int)] ++ (fs.drop n1).map bv = tt.map bv by (rw [← htt]; simp [bv])] at ho2
                  clear O9b
                  have O9b := Lib.hid ho2
                  clear ho2
                  obtain ⟨ft, hft⟩ : ∃ ft, badL fs c n1 = ft := ⟨_, rfl⟩
                  have FB : Hid (badF f c j a1.toNat j = ft) := Lib.hid (by unfold badF; rw [if_pos rfl, XS.out, FS.out, RX.out.1, N1.out, hft])
                  by_cases hc13 : c = 13
                  · have FT : Hid (tt.map bv ++ [Value.int .u8 120] = ft.map bv) := Lib.hid (by rw [← hft, ← htt]; unfold badL; rw [if_pos hc13]; simp [bv])
                    clear htt hft
                    have hq : ((c.toNat : Int) == 13) = true := by rw [hc13]; rfl
                    have H13 := Lib.hid (show (c.toNat : Int) = 13 by rw [hc13]; rfl)
                    clear hc13
                    obtain ⟨ns, hns⟩ : ∃ ns, n9 + 1 = ns := ⟨_, rfl⟩
                    have nsb : ns ≤ 102 := by omega
                    go_wp2_with (first
                      | (at_builtin; refine wpList_append_Own rfl _ _ 22 22 rfl w2.heap.size 5 1 1 i0 (.int .u8 0) Try.underlying22 Hi.out Hz0.out Hz1.out rfl Hz2.out a9 n9 c9 _ rfl (O9b.out.alloc _) _ 1 _ rfl (Src.cells Try.underlying22 (heap_alloc_new _ _) 1 1 1 (by rfl) (by simp [Value.oneCell'])) (by unfold maxLen; omega) (by omega) (by have := CW.out.size; simp <;> omega) ?_; intro a10 c10 w10 hown hchg hb _; rw [hns] at hown ⊢; rw [FT.out] at hown; have OS := Lib.hid hown; have CC := Lib.hid ((CW.out.alloc _).next hchg (fun i hi e => by have := (O9b.out.lt i e.1).1; omega)); clear hown hchg hb O9b; obtain ⟨gs, hgs, hrs⟩ := Rd.of_Own OS.out; have cv7 : (convert 22 9 (.slice a10 ns c10)).run Try.prog w10 = .ok (.string ⟨(ft).toArray⟩) w10 := hrs.string Try.underlying22 Try.underlying5 Try.underlying9; have M3 := Lib.hid (EndsM.keep M.out CC.out); clear hgs hrs)
                      | (at_builtin; refine wpList_append_Own rfl _ _ 27 27 rfl w1.heap.size 9 1 16 i1 (.string ⟨#[]⟩) Try.underlying27 Hs1.out Hs2.out Hs3.out rfl Hs4.out aw j cw _ rfl (M3.out.ow.alloc _) _ 1 _ rfl (Src.cells Try.underlying27 (heap_alloc_new _ _) 1 1 1 (by rfl) (by simp [Value.oneCell'])) (by unfold maxLen; omega) (by omega) (by have := M3.out.chg.size; simp; omega) ?_; intro a4 c4 w4 hown hchg hb _; have hm := EndsM.text (x := ft) M3.out ((Chg.refl _ _).alloc _) (by simpa [tv] using hown) (fun _ h => h.1) hchg hb; have M4 := Lib.hid hm; obtain ⟨gs, _, hrs⟩ := Rd.of_Own ((OS.out.alloc _).chg hchg (fun k hk e => by have h1 := (M.out.ow.lt k e.1).2; have h2 := (OS.out.lt k hk).1; omega)); have R4 := Lib.hid hrs; clear hown hchg hb hm hrs)
                      | (at_builtin; refine wpList_append_Own rfl _ _ 22 22 rfl w1.heap.size 5 1 1 i0 (.int .u8 0) Try.underlying22 Hi.out Hz0.out Hz1.out rfl Hz2.out ab nb cb _ rfl M4.out.ob _ ns _ rfl (R4.out.src Try.underlying22) (by unfold maxLen; omega) (by omega) M4.out.chg.size ?_; intro a5 c5 w5 hown hchg hb _; have hm := EndsM.bytes (news := ft) M4.out (Chg.refl _ _) (by simpa using hown) (fun _ h => h.1) hchg hb; have M5 := Lib.hid hm; clear hown hchg hb hm)
                      | (at_builtin; refine wpList_append_Own rfl _ _ 22 22 rfl w1.heap.size 5 1 1 i0 (.int .u8 0) Try.underlying22 Hi.out Hz0.out Hz1.out rfl Hz2.out a5 (nb + ns) c5 _ rfl (M5.out.ob.alloc _) _ 1 _ rfl (Src.cells Try.underlying22 (heap_alloc_new _ _) 1 1 1 (by rfl) (by simp [Value.oneCell'])) (by unfold maxLen; omega) (by omega) (by have := M5.out.chg.size; simp; omega) ?_; intro a6 c6 w6 hown hchg hb _; have hm := EndsM.bytes (news := [10]) M5.out ((Chg.refl _ _).alloc _) (by simpa [bv] using hown) (fun _ h => h.1) hchg hb; have M6 := Lib.hid hm; clear hown hchg hb hm))
                    go_roundw
                    case rel =>
                      have hm := M6.out
                      have e1 : (List.range j).map (badF f c j a1.toNat) ++ [ft] = (List.range (j + 1)).map (badF f c j a1.toNat) := by rw [List.range_succ, List.map_append, List.map_singleton, FB.out]
                      rw [e1] at hm
                      refine ⟨j + 1, a6, nb + ns + 1, c6, _, a4, c4, by omega, rfl, rfl, by go_num, by omega, ?_, fun i hi => ?_, hm⟩
                      · rw [BL.out]; show _ = endB _ _ j ++ ((badF f c j a1.toNat j ++ if false = true then [13] else []) ++ [10]); rw [FB.out]; simp
                      · by_cases e : i = j
                        · rw [e, XS.out, RX.out.1]; omega
                        · exact LEN.out i (by omega)
                    case measure => simp [intOf]; omega
                  · have hq : ((c.toNat : Int) == 13) = false := by
                      rw [beq_eq_false_iff_ne]
                      intro e
                      exact hc13 (UInt8.toNat_inj.1 (by simp; omega))
                    have hoo := O9b.out
                    rw [show tt = ft by (rw [← hft, ← htt]; unfold badL; rw [if_neg hc13]; simp)] at hoo
                    have OS := Lib.hid hoo
                    have CC := CW
                    clear hoo O9b hft htt
                    obtain ⟨gs, hgs, hrs⟩ := Rd.of_Own OS.out
                    have cv7 : (convert 22 9 (.slice a9 n9 c9)).run Try.prog w9 = .ok (.string ⟨(ft).toArray⟩) w9 := hrs.string Try.underlying22 Try.underlying5 Try.underlying9
                    have M3 := Lib.hid (EndsM.keep M.out CC.out)
                    clear hgs hrs
                    go_wp2_with (first
                      | (at_builtin; refine wpList_append_Own rfl _ _ 27 27 rfl w1.heap.size 9 1 16 i1 (.string ⟨#[]⟩) Try.underlying27 Hs1.out Hs2.out Hs3.out rfl Hs4.out aw j cw _ rfl (M3.out.ow.alloc _) _ 1 _ rfl (Src.cells Try.underlying27 (heap_alloc_new _ _) 1 1 1 (by rfl) (by simp [Value.oneCell'])) (by unfold maxLen; omega) (by omega) (by have := M3.out.chg.size; simp; omega) ?_; intro a4 c4 w4 hown hchg hb _; have hm := EndsM.text (x := ft) M3.out ((Chg.refl _ _).alloc _) (by simpa [tv] using hown) (fun _ h => h.1) hchg hb; have M4 := Lib.hid hm; obtain ⟨gs, _, hrs⟩ := Rd.of_Own ((OS.out.alloc _).chg hchg (fun k hk e => by have h1 := (M.out.ow.lt k e.1).2; have h2 := (OS.out.lt k hk).1; omega)); have R4 := Lib.hid hrs; clear hown hchg hb hm hrs)
                      | (at_builtin; refine wpList_append_Own rfl _ _ 22 22 rfl w1.heap.size 5 1 1 i0 (.int .u8 0) Try.underlying22 Hi.out Hz0.out Hz1.out rfl Hz2.out ab nb cb _ rfl M4.out.ob _ n9 _ rfl (R4.out.src Try.underlying22) (by unfold maxLen; omega) (by omega) M4.out.chg.size ?_; intro a5 c5 w5 hown hchg hb _; have hm := EndsM.bytes (news := ft) M4.out (Chg.refl _ _) (by simpa using hown) (fun _ h => h.1) hchg hb; have M5 := Lib.hid hm; clear hown hchg hb hm)
                      | (at_builtin; refine wpList_append_Own rfl _ _ 22 22 rfl w1.heap.size 5 1 1 i0 (.int .u8 0) Try.underlying22 Hi.out Hz0.out Hz1.out rfl Hz2.out a5 (nb + n9) c5 _ rfl (M5.out.ob.alloc _) _ 1 _ rfl (Src.cells Try.underlying22 (heap_alloc_new _ _) 1 1 1 (by rfl) (by simp [Value.oneCell'])) (by unfold maxLen; omega) (by omega) (by have := M5.out.chg.size; simp; omega) ?_; intro a6 c6 w6 hown hchg hb _; have hm := EndsM.bytes (news := [10]) M5.out ((Chg.refl _ _).alloc _) (by simpa [bv] using hown) (fun _ h => h.1) hchg hb; have M6 := Lib.hid hm; clear hown hchg hb hm))
                    go_roundw
                    case rel =>
                      have hm := M6.out
                      have e1 : (List.range j).map (badF f c j a1.toNat) ++ [ft] = (List.range (j + 1)).map (badF f c j a1.toNat) := by rw [List.range_succ, List.map_append, List.map_singleton, FB.out]
                      rw [e1] at hm
                      refine ⟨j + 1, a6, nb + n9 + 1, c6, _, a4, c4, by omega, rfl, rfl, by go_num, by omega, ?_, fun i hi => ?_, hm⟩
                      · rw [BL.out]; show _ = endB _ _ j ++ ((badF f c j a1.toNat j ++ if false = true then [13] else []) ++ [10]); rw [FB.out]; simp
                      · by_cases e : i = j
                        · rw [e, XS.out, RX.out.1]; omega
                        · exact LEN.out i (by omega)
                    case measure => simp [intOf]; omega
              · have hjk' : ((j : Int) == (k : Int)) = false := by simp; omega
                have hjk3 : ¬ (j : Int) = (k : Int) := by omega
                obtain ⟨ft, hft⟩ : ∃ ft, xs.map fine = ft := ⟨_, rfl⟩
                rw [hft] at OS
                have FB : Hid (badF f c k a1.toNat j = ft) := Lib.hid (by unfold badF; rw [if_neg hjk, XS.out, hft])
                clear hft
                skip
                obtain ⟨gs, hgs, hrs⟩ := Rd.of_Own OS.out
                have cv7 : (convert 22 9 (.slice sa h sc)).run Try.prog wr = .ok (.string ⟨(ft).toArray⟩) wr := hrs.string Try.underlying22 Try.underlying5 Try.underlying9
                have M3 := Lib.hid (EndsM.keep M.out CC.out)
                clear hgs hrs
                go_wp2_with (first
                  | (at_builtin; refine wpList_append_Own rfl _ _ 27 27 rfl w1.heap.size 9 1 16 i1 (.string ⟨#[]⟩) Try.underlying27 Hs1.out Hs2.out Hs3.out rfl Hs4.out aw j cw _ rfl (M3.out.ow.alloc _) _ 1 _ rfl (Src.cells Try.underlying27 (heap_alloc_new _ _) 1 1 1 (by rfl) (by simp [Value.oneCell'])) (by unfold maxLen; omega) (by omega) (by have := M3.out.chg.size; simp; omega) ?_; intro a4 c4 w4 hown hchg hb _; have hm := EndsM.text (x := ft) M3.out ((Chg.refl _ _).alloc _) (by simpa [tv] using hown) (fun _ h => h.1) hchg hb; have M4 := Lib.hid hm; obtain ⟨gs, _, hrs⟩ := Rd.of_Own ((OS.out.alloc _).chg hchg (fun k hk e => by have h1 := (M.out.ow.lt k e.1).2; have h2 := (OS.out.lt k hk).1; omega)); have R4 := Lib.hid hrs; clear hown hchg hb hm hrs)
                  | (at_builtin; refine wpList_append_Own rfl _ _ 22 22 rfl w1.heap.size 5 1 1 i0 (.int .u8 0) Try.underlying22 Hi.out Hz0.out Hz1.out rfl Hz2.out ab nb cb _ rfl M4.out.ob _ h _ rfl (R4.out.src Try.underlying22) (by unfold maxLen; omega) (by omega) M4.out.chg.size ?_; intro a5 c5 w5 hown hchg hb _; have hm := EndsM.bytes (news := ft) M4.out (Chg.refl _ _) (by simpa using hown) (fun _ h => h.1) hchg hb; have M5 := Lib.hid hm; clear hown hchg hb hm)
                  | (at_builtin; refine wpList_append_Own rfl _ _ 22 22 rfl w1.heap.size 5 1 1 i0 (.int .u8 0) Try.underlying22 Hi.out Hz0.out Hz1.out rfl Hz2.out a5 (nb + h) c5 _ rfl (M5.out.ob.alloc _) _ 1 _ rfl (Src.cells Try.underlying22 (heap_alloc_new _ _) 1 1 1 (by rfl) (by simp [Value.oneCell'])) (by unfold maxLen; omega) (by omega) (by have := M5.out.chg.size; simp; omega) ?_; intro a6 c6 w6 hown hchg hb _; have hm := EndsM.bytes (news := [10]) M5.out ((Chg.refl _ _).alloc _) (by simpa [bv] using hown) (fun _ h => h.1) hchg hb; have M6 := Lib.hid hm; clear hown hchg hb hm))
                go_roundw
                case rel =>
                  have hm := M6.out
                  have e1 : (List.range j).map (badF f c k a1.toNat) ++ [ft] = (List.range (j + 1)).map (badF f c k a1.toNat) := by rw [List.range_succ, List.map_append, List.map_singleton, FB.out]
                  rw [e1] at hm
                  refine ⟨j + 1, a6, nb + h + 1, c6, _, a4, c4, by omega, rfl, rfl, by go_num, by omega, ?_, fun i hi => ?_, hm⟩
                  · rw [BL.out]; show _ = endB _ _ j ++ ((badF f c k a1.toNat j ++ if false = true then [13] else []) ++ [10]); rw [FB.out]; simp
                  · by_cases e : i = j
                    · rw [e, XS.out, RX.out.1]; omega
                    · exact LEN.out i (by omega)
                case measure => simp [intOf]; omega
      · skip
        have j1 : ¬ (j : Int) < (n : Int) := by omega
        obtain rfl : j = n := by omega
        have hnb9 : nb ≤ 20000 := by omega
        obtain ⟨gb, hgb, hrd⟩ := Rd.of_Own M.out.ob
        have RB := Lib.hid hrd
        have GB := Lib.hid (show 0 < cb → gb < wr.heap.size from fun hp => (M.out.ob.lt gb (hgb hp)).2)
        have hL := bad_puts (f := f) NC.out k a1.toNat (n := j) LEN.out
        rw [← BL.out] at hL
        obtain ⟨L, hLL⟩ : ∃ L, (List.range j).map (badOut f c k a1.toNat) = L := ⟨_, rfl⟩
        rw [hLL] at hL
        have P1 := Lib.hid hL.1; have P2 := Lib.hid hL.2; have LE := Lib.hid hLL
        clear hgb hrd hL hLL hwb hl1 D1 h3
        have hlc := c.toNat_lt
        by_cases hc1 : 126 < (c.toNat : Int)
        · have hc2 : ¬ (c.toNat : Int) < 32 := by omega
          have HO : Hid (oddB c = true) := Lib.hid (by rw [oddB_iff]; simp; omega)
          go_wp2_with fail
          refine Calls.mono (New_any _) ?_
          rintro e w4 ⟨rfl, hr4, hc4⟩
          obtain ⟨r, hrr⟩ : ∃ r, r = wr.heap.size + 1 := ⟨_, rfl⟩
          obtain ⟨p, hpp⟩ : ∃ p, p = wr.heap.size := ⟨_, rfl⟩
          have PB := Lib.hid (show p = wr.heap.size from hpp)
          rw [← hrr, ← hpp] at hr4
          rw [← hrr]
          have R4 := Lib.hid hr4; have C4 := Lib.hid hc4
          clear hr4 hc4 hrr hpp
          go_wp2_with fail
          refine Calls.mono (Put_rdr R4.out (RB.out.same (fun hp => C4.out.block _ (GB.out (by have := RB.out.2.1; omega)) (fun h => h))) (fun hp => ⟨by have h1 := GB.out (by have := RB.out.2.1; omega); have h2 := PB.out; omega, by simp [blk]⟩) (by omega) P1.out P2.out) ?_
          rintro e w5 ⟨la, lc, oa, oc, m, ao5, cap5, rfl, h5⟩
          have H5 := Lib.hid h5
          have C5 := Lib.hid (PutEnd.non R4.out h5.chg C4.out (by have := PB.out; omega))
          obtain rfl : m = j := by rw [← h5.ml, ← LE.out]; simp
          clear h5
          have q1 := H5.out.ot; have q2 := H5.out.ob
          obtain ⟨g1, rfl, hg1, _, _, e1, _⟩ := q1.form (by have := q1.le; omega)
          obtain ⟨g2, rfl, hg2, _, _, e2, _⟩ := q2.form (by have := q2.le; omega)
          have q3 := M.out.ow.chg C5.out (fun _ _ h => h)
          have hl3 := fun kk hk => (M.out.ow.lt kk hk).2
          obtain ⟨g3, rfl, hb3, hg3, hf3, e3, hs3⟩ := q3.form (by have := q3.le; omega)
          have hg3 := hl3 g3 rfl
          have hz4 := C4.out.size
          have N13 : g3 ≠ g1 := by omega
          have N23 : g3 ≠ g2 := by omega
          have X1 : Hid (∀ i, i < m → w5.cell? ⟨g1, i, none⟩ = some (tv (badOut f c k a1.toNat i).1)) := Lib.hid (fun i hi => by rw [e1 i (by omega), ← LE.out]; simp [txts, hi, tv])
          have X2 : Hid (∀ i, i < m → w5.cell? ⟨g2, i, none⟩ = some (.bool (badOut f c k a1.toNat i).2)) := Lib.hid (fun i hi => by rw [e2 i (by omega), ← LE.out]; simp [bols, hi])
          have X3 : Hid (∀ i, i < m → w5.cell? ⟨g3, i, none⟩ = some (tv (badF f c k a1.toNat i))) := Lib.hid (fun i hi => by rw [e3 i (by omega)]; simp [hi])
          have f3 : w5.frozen? ⟨g3, k, none⟩ = false := hf3 k
          have N13 := Lib.hid N13; have N23 := Lib.hid N23
          have hB3 := Lib.hid (show w1.heap.size ≤ g3 from hb3)
          obtain ⟨u3, hk3'⟩ : ∃ u, w5.cell? ⟨g3, k, none⟩ = some u := ⟨_, X3.out k hkn⟩
          clear q1 q2 q3 hg1 hg2 e1 e2 e3 hl3 hg3 hz4 hf3 hs3 hb3
          go_wp2_with fail
          obtain ⟨w6, hw6⟩ : ∃ w6, w6 = w5.setCell ⟨g3, k, none⟩ (.string ⟨#[]⟩) := ⟨_, rfl⟩
          have Y1 : Hid (∀ i, i < m → w6.cell? ⟨g1, i, none⟩ = some (tv (badOut f c k a1.toNat i).1)) := Lib.hid (fun i hi => by rw [hw6, World.cell?_setCell_far _ _ _ _ N13.out]; exact X1.out i hi)
          have Y2 : Hid (∀ i, i < m → w6.cell? ⟨g2, i, none⟩ = some (.bool (badOut f c k a1.toNat i).2)) := Lib.hid (fun i hi => by rw [hw6, World.cell?_setCell_far _ _ _ _ N23.out]; exact X2.out i hi)
          have Y3 : Hid (∀ i, i < m → w6.cell? ⟨g3, i, none⟩ = some (tv (if i = k then [] else badF f c k a1.toNat i))) := Lib.hid (fun i hi => by
            by_cases e : i = k
            · rw [if_pos e, e, hw6, World.cell?_setCell_same _ _ _ hk3']; rfl
            · rw [if_neg e, hw6, World.cell?_setCell_other _ _ _ _ (fun h => e (by injection h with _ h2 _; exact h2.symm))]; exact X3.out i hi)
          have C6 : Hid (Chg Non w1 w6) := Lib.hid (by rw [hw6]; exact Chg.setCell (M.out.chg.trans C5.out) (.inl hB3.out) _)
          rw [← hw6]
          clear hw6
          clear hk3'
          go_loopw [19] (fun i ws => ∃ (q z : Nat), q ≤ m ∧ i = .int .i64 (q : Int) ∧ ws = World.drewN w6 z) (fun i _ => m - (intOf i).toNat)
          case atStart => exact ⟨0, 0, by omega, rfl, rfl⟩
          case round =>
            obtain ⟨q, z, hq, rfl, rfl⟩ := hrel
            by_cases hql : q < m
            · have d1 := Y1.out q hql; have d2 := Y2.out q hql; have d3 := Y3.out q hql
              have q0 : (0 : Int) ≤ (q : Int) := by omega
              have q1 : (q : Int) < (m : Int) := by omega
              unfold badOut at d1 d2
              by_cases hqk : q = k
              · have hqk2 : (q : Int) = (k : Int) := by omega
                simp only [HO.out, hqk, true_and, and_true, if_true, if_false, Bool.false_eq_true, false_and] at d1 d2 d3
                obtain ⟨t, ht⟩ : ∃ t, ([] : List UInt8) = t := ⟨_, rfl⟩
                try rw [ht] at d1 d3
                clear ht
                simp only [tv] at d1 d3
                go_wp2_with fail
                go_quiet (fail)
                go_wp2_with fail
                go_roundw
                case rel => exact ⟨q + 1, _, by omega, by go_num, by first | rfl | simp only [World.drewN_drewN]⟩
                case measure => simp [intOf]; omega
              · have hqk2 : ¬ (q : Int) = (k : Int) := by omega
                have hqk3 : ((q : Int) == (k : Int)) = false := by simp; omega
                simp only [HO.out, hqk, true_and, and_true, and_false, if_true, if_false, Bool.false_eq_true, false_and] at d1 d2 d3
                obtain ⟨t, ht⟩ : ∃ t, badF f c k a1.toNat q = t := ⟨_, rfl⟩
                rw [ht] at d1 d3
                clear ht
                simp only [tv] at d1 d3
                go_wp2_with fail
                go_quiet (fail)
                go_wp2_with fail
                go_roundw
                case rel => exact ⟨q + 1, _, by omega, by go_num, by first | rfl | simp only [World.drewN_drewN]⟩
                case measure => simp [intOf]; omega
            · have q1 : ¬ (q : Int) < (m : Int) := by omega
              go_wp2_with fail
              go_ret
              exact ⟨rfl, ((C1.out.trans C6.out).drewN _).belowN⟩
        · by_cases hc2 : (c.toNat : Int) < 32
          · by_cases hc3 : (c.toNat : Int) = 9
            · skip
              have HO : Hid (oddB c = false) := Lib.hid (by rw [oddB_iff]; simp; omega)
              go_wp2_with fail
              refine Calls.mono (New_any _) ?_
              rintro e w4 ⟨rfl, hr4, hc4⟩
              obtain ⟨r, hrr⟩ : ∃ r, r = wr.heap.size + 1 := ⟨_, rfl⟩
              obtain ⟨p, hpp⟩ : ∃ p, p = wr.heap.size := ⟨_, rfl⟩
              have PB := Lib.hid (show p = wr.heap.size from hpp)
              rw [← hrr, ← hpp] at hr4
              rw [← hrr]
              have R4 := Lib.hid hr4; have C4 := Lib.hid hc4
              clear hr4 hc4 hrr hpp
              go_wp2_with fail
              refine Calls.mono (Put_rdr R4.out (RB.out.same (fun hp => C4.out.block _ (GB.out (by have := RB.out.2.1; omega)) (fun h => h))) (fun hp => ⟨by have h1 := GB.out (by have := RB.out.2.1; omega); have h2 := PB.out; omega, by simp [blk]⟩) (by omega) P1.out P2.out) ?_
              rintro e w5 ⟨la, lc, oa, oc, m, ao5, cap5, rfl, h5⟩
              have H5 := Lib.hid h5
              have C5 := Lib.hid (PutEnd.non R4.out h5.chg C4.out (by have := PB.out; omega))
              obtain rfl : m = j := by rw [← h5.ml, ← LE.out]; simp
              clear h5
              have q1 := H5.out.ot; have q2 := H5.out.ob
              obtain ⟨g1, rfl, hg1, _, _, e1, _⟩ := q1.form (by have := q1.le; omega)
              obtain ⟨g2, rfl, hg2, _, _, e2, _⟩ := q2.form (by have := q2.le; omega)
              have q3 := M.out.ow.chg C5.out (fun _ _ h => h)
              have hl3 := fun kk hk => (M.out.ow.lt kk hk).2
              obtain ⟨g3, rfl, hb3, hg3, hf3, e3, hs3⟩ := q3.form (by have := q3.le; omega)
              have hg3 := hl3 g3 rfl
              have hz4 := C4.out.size
              have N13 : g3 ≠ g1 := by omega
              have N23 : g3 ≠ g2 := by omega
              have X1 : Hid (∀ i, i < m → w5.cell? ⟨g1, i, none⟩ = some (tv (badOut f c k a1.toNat i).1)) := Lib.hid (fun i hi => by rw [e1 i (by omega), ← LE.out]; simp [txts, hi, tv])
              have X2 : Hid (∀ i, i < m → w5.cell? ⟨g2, i, none⟩ = some (.bool (badOut f c k a1.toNat i).2)) := Lib.hid (fun i hi => by rw [e2 i (by omega), ← LE.out]; simp [bols, hi])
              have X3 : Hid (∀ i, i < m → w5.cell? ⟨g3, i, none⟩ = some (tv (badF f c k a1.toNat i))) := Lib.hid (fun i hi => by rw [e3 i (by omega)]; simp [hi])
              have f3 : w5.frozen? ⟨g3, k, none⟩ = false := hf3 k
              have N13 := Lib.hid N13; have N23 := Lib.hid N23
              have hB3 := Lib.hid (show w1.heap.size ≤ g3 from hb3)
              obtain ⟨u3, hk3'⟩ : ∃ u, w5.cell? ⟨g3, k, none⟩ = some u := ⟨_, X3.out k hkn⟩
              clear q1 q2 q3 hg1 hg2 e1 e2 e3 hl3 hg3 hz4 hf3 hs3 hb3
              go_wp2_with fail
              obtain ⟨w6, hw6⟩ : ∃ w6, w6 = w5 := ⟨_, rfl⟩
              have Y1 := X1; have Y2 := X2; have Y3 := X3; have C6 := Lib.hid (M.out.chg.trans C5.out)
              rw [← hw6] at Y1 Y2 Y3 C6 ⊢
              clear hw6
              clear hk3'
              go_loopw [19] (fun i ws => ∃ (q z : Nat), q ≤ m ∧ i = .int .i64 (q : Int) ∧ ws = World.drewN w6 z) (fun i _ => m - (intOf i).toNat)
              case atStart => exact ⟨0, 0, by omega, rfl, rfl⟩
              case round =>
                obtain ⟨q, z, hq, rfl, rfl⟩ := hrel
                by_cases hql : q < m
                · have d1 := Y1.out q hql; have d2 := Y2.out q hql; have d3 := Y3.out q hql
                  have q0 : (0 : Int) ≤ (q : Int) := by omega
                  have q1 : (q : Int) < (m : Int) := by omega
                  unfold badOut at d1 d2
                  by_cases hqk : q = k
                  · have hqk2 : (q : Int) = (k : Int) := by omega
                    simp only [HO.out, hqk, true_and, and_true, if_true, if_false, Bool.false_eq_true, false_and] at d1 d2 d3
                    obtain ⟨t, ht⟩ : ∃ t, (badF f c k a1.toNat k) = t := ⟨_, rfl⟩
                    try rw [ht] at d1 d3
                    clear ht
                    simp only [tv] at d1 d3
                    go_wp2_with fail
                    go_quiet (fail)
                    go_wp2_with fail
                    go_roundw
                    case rel => exact ⟨q + 1, _, by omega, by go_num, by first | rfl | simp only [World.drewN_drewN]⟩
                    case measure => simp [intOf]; omega
                  · have hqk2 : ¬ (q : Int) = (k : Int) := by omega
                    have hqk3 : ((q : Int) == (k : Int)) = false := by simp; omega
                    simp only [HO.out, hqk, true_and, and_true, and_false, if_true, if_false, Bool.false_eq_true, false_and] at d1 d2 d3
                    obtain ⟨t, ht⟩ : ∃ t, badF f c k a1.toNat q = t := ⟨_, rfl⟩
                    rw [ht] at d1 d3
                    clear ht
                    simp only [tv] at d1 d3
                    go_wp2_with fail
                    go_quiet (fail)
                    go_wp2_with fail
                    go_roundw
                    case rel => exact ⟨q + 1, _, by omega, by go_num, by first | rfl | simp only [World.drewN_drewN]⟩
                    case measure => simp [intOf]; omega
                · have q1 : ¬ (q : Int) < (m : Int) := by omega
                  go_wp2_with fail
                  go_ret
                  exact ⟨rfl, ((C1.out.trans C6.out).drewN _).belowN⟩
            · skip
              have HO : Hid (oddB c = true) := Lib.hid (by rw [oddB_iff]; simp; omega)
              go_wp2_with fail
              refine Calls.mono (New_any _) ?_
              rintro e w4 ⟨rfl, hr4, hc4⟩
              obtain ⟨r, hrr⟩ : ∃ r, r = wr.heap.size + 1 := ⟨_, rfl⟩
              obtain ⟨p, hpp⟩ : ∃ p, p = wr.heap.size := ⟨_, rfl⟩
              have PB := Lib.hid (show p = wr.heap.size from hpp)
              rw [← hrr, ← hpp] at hr4
              rw [← hrr]
              have R4 := Lib.hid hr4; have C4 := Lib.hid hc4
              clear hr4 hc4 hrr hpp
              go_wp2_with fail
              refine Calls.mono (Put_rdr R4.out (RB.out.same (fun hp => C4.out.block _ (GB.out (by have := RB.out.2.1; omega)) (fun h => h))) (fun hp => ⟨by have h1 := GB.out (by have := RB.out.2.1; omega); have h2 := PB.out; omega, by simp [blk]⟩) (by omega) P1.out P2.out) ?_
              rintro e w5 ⟨la, lc, oa, oc, m, ao5, cap5, rfl, h5⟩
              have H5 := Lib.hid h5
              have C5 := Lib.hid (PutEnd.non R4.out h5.chg C4.out (by have := PB.out; omega))
              obtain rfl : m = j := by rw [← h5.ml, ← LE.out]; simp
              clear h5
              have q1 := H5.out.ot; have q2 := H5.out.ob
              obtain ⟨g1, rfl, hg1, _, _, e1, _⟩ := q1.form (by have := q1.le; omega)
              obtain ⟨g2, rfl, hg2, _, _, e2, _⟩ := q2.form (by have := q2.le; omega)
              have q3 := M.out.ow.chg C5.out (fun _ _ h => h)
              have hl3 := fun kk hk => (M.out.ow.lt kk hk).2
              obtain ⟨g3, rfl, hb3, hg3, hf3, e3, hs3⟩ := q3.form (by have := q3.le; omega)
              have hg3 := hl3 g3 rfl
              have hz4 := C4.out.size
              have N13 : g3 ≠ g1 := by omega
              have N23 : g3 ≠ g2 := by omega
              have X1 : Hid (∀ i, i < m → w5.cell? ⟨g1, i, none⟩ = some (tv (badOut f c k a1.toNat i).1)) := Lib.hid (fun i hi => by rw [e1 i (by omega), ← LE.out]; simp [txts, hi, tv])
              have X2 : Hid (∀ i, i < m → w5.cell? ⟨g2, i, none⟩ = some (.bool (badOut f c k a1.toNat i).2)) := Lib.hid (fun i hi => by rw [e2 i (by omega), ← LE.out]; simp [bols, hi])
              have X3 : Hid (∀ i, i < m → w5.cell? ⟨g3, i, none⟩ = some (tv (badF f c k a1.toNat i))) := Lib.hid (fun i hi => by rw [e3 i (by omega)]; simp [hi])
              have f3 : w5.frozen? ⟨g3, k, none⟩ = false := hf3 k
              have N13 := Lib.hid N13; have N23 := Lib.hid N23
              have hB3 := Lib.hid (show w1.heap.size ≤ g3 from hb3)
              obtain ⟨u3, hk3'⟩ : ∃ u, w5.cell? ⟨g3, k, none⟩ = some u := ⟨_, X3.out k hkn⟩
              clear q1 q2 q3 hg1 hg2 e1 e2 e3 hl3 hg3 hz4 hf3 hs3 hb3
              go_wp2_with fail
              obtain ⟨w6, hw6⟩ : ∃ w6, w6 = w5.setCell ⟨g3, k, none⟩ (.string ⟨#[]⟩) := ⟨_, rfl⟩
              have Y1 : Hid (∀ i, i < m → w6.cell? ⟨g1, i, none⟩ = some (tv (badOut f c k a1.toNat i).1)) := Lib.hid (fun i hi => by rw [hw6, World.cell?_setCell_far _ _ _ _ N13.out]; exact X1.out i hi)
              have Y2 : Hid (∀ i, i < m → w6.cell? ⟨g2, i, none⟩ = some (.bool (badOut f c k a1.toNat i).2)) := Lib.hid (fun i hi => by rw [hw6, World.cell?_setCell_far _ _ _ _ N23.out]; exact X2.out i hi)
              have Y3 : Hid (∀ i, i < m → w6.cell? ⟨g3, i, none⟩ = some (tv (if i = k then [] else badF f c k a1.toNat i))) := Lib.hid (fun i hi => by
                by_cases e : i = k
                · rw [if_pos e, e, hw6, World.cell?_setCell_same _ _ _ hk3']; rfl
                · rw [if_neg e, hw6, World.cell?_setCell_other _ _ _ _ (fun h => e (by injection h with _ h2 _; exact h2.symm))]; exact X3.out i hi)
              have C6 : Hid (Chg Non w1 w6) := Lib.hid (by rw [hw6]; exact Chg.setCell (M.out.chg.trans C5.out) (.inl hB3.out) _)
              rw [← hw6]
              clear hw6
              clear hk3'
              go_loopw [19] (fun i ws => ∃ (q z : Nat), q ≤ m ∧ i = .int .i64 (q : Int) ∧ ws = World.drewN w6 z) (fun i _ => m - (intOf i).toNat)
              case atStart => exact ⟨0, 0, by omega, rfl, rfl⟩
              case round =>
                obtain ⟨q, z, hq, rfl, rfl⟩ := hrel
                by_cases hql : q < m
                · have d1 := Y1.out q hql; have d2 := Y2.out q hql; have d3 := Y3.out q hql
                  have q0 : (0 : Int) ≤ (q : Int) := by omega
                  have q1 : (q : Int) < (m : Int) := by omega
                  unfold badOut at d1 d2
                  by_cases hqk : q = k
                  · have hqk2 : (q : Int) = (k : Int) := by omega
                    simp only [HO.out, hqk, true_and, and_true, if_true, if_false, Bool.false_eq_true, false_and] at d1 d2 d3
                    obtain ⟨t, ht⟩ : ∃ t, ([] : List UInt8) = t := ⟨_, rfl⟩
                    try rw [ht] at d1 d3
                    clear ht
                    simp only [tv] at d1 d3
                    go_wp2_with fail
                    go_quiet (fail)
                    go_wp2_with fail
                    go_roundw
                    case rel => exact ⟨q + 1, _, by omega, by go_num, by first | rfl | simp only [World.drewN_drewN]⟩
                    case measure => simp [intOf]; omega
                  · have hqk2 : ¬ (q : Int) = (k : Int) := by omega
                    have hqk3 : ((q : Int) == (k : Int)) = false := by simp; omega
                    simp only [HO.out, hqk, true_and, and_true, and_false, if_true, if_false, Bool.false_eq_true, false_and] at d1 d2 d3
                    obtain ⟨t, ht⟩ : ∃ t, badF f c k a1.toNat q = t := ⟨_, rfl⟩
                    rw [ht] at d1 d3
                    clear ht
                    simp only [tv] at d1 d3
                    go_wp2_with fail
                    go_quiet (fail)
                    go_wp2_with fail
                    go_roundw
                    case rel => exact ⟨q + 1, _, by omega, by go_num, by first | rfl | simp only [World.drewN_drewN]⟩
                    case measure => simp [intOf]; omega
                · have q1 : ¬ (q : Int) < (m : Int) := by omega
                  go_wp2_with fail
                  go_ret
                  exact ⟨rfl, ((C1.out.trans C6.out).drewN _).belowN⟩
          · have hc1' : decide (126 < (c.toNat : Int)) = false := decide_eq_false hc1
            have HO : Hid (oddB c = false) := Lib.hid (by rw [oddB_iff]; simp; omega)
            go_wp2_with fail
            refine Calls.mono (New_any _) ?_
            rintro e w4 ⟨rfl, hr4, hc4⟩
            obtain ⟨r, hrr⟩ : ∃ r, r = wr.heap.size + 1 := ⟨_, rfl⟩
            obtain ⟨p, hpp⟩ : ∃ p, p = wr.heap.size := ⟨_, rfl⟩
            have PB := Lib.hid (show p = wr.heap.size from hpp)
            rw [← hrr, ← hpp] at hr4
            rw [← hrr]
            have R4 := Lib.hid hr4; have C4 := Lib.hid hc4
            clear hr4 hc4 hrr hpp
            go_wp2_with fail
            refine Calls.mono (Put_rdr R4.out (RB.out.same (fun hp => C4.out.block _ (GB.out (by have := RB.out.2.1; omega)) (fun h => h))) (fun hp => ⟨by have h1 := GB.out (by have := RB.out.2.1; omega); have h2 := PB.out; omega, by simp [blk]⟩) (by omega) P1.out P2.out) ?_
            rintro e w5 ⟨la, lc, oa, oc, m, ao5, cap5, rfl, h5⟩
            have H5 := Lib.hid h5
            have C5 := Lib.hid (PutEnd.non R4.out h5.chg C4.out (by have := PB.out; omega))
            obtain rfl : m = j := by rw [← h5.ml, ← LE.out]; simp
            clear h5
            have q1 := H5.out.ot; have q2 := H5.out.ob
            obtain ⟨g1, rfl, hg1, _, _, e1, _⟩ := q1.form (by have := q1.le; omega)
            obtain ⟨g2, rfl, hg2, _, _, e2, _⟩ := q2.form (by have := q2.le; omega)
            have q3 := M.out.ow.chg C5.out (fun _ _ h => h)
            have hl3 := fun kk hk => (M.out.ow.lt kk hk).2
            obtain ⟨g3, rfl, hb3, hg3, hf3, e3, hs3⟩ := q3.form (by have := q3.le; omega)
            have hg3 := hl3 g3 rfl
            have hz4 := C4.out.size
            have N13 : g3 ≠ g1 := by omega
            have N23 : g3 ≠ g2 := by omega
            have X1 : Hid (∀ i, i < m → w5.cell? ⟨g1, i, none⟩ = some (tv (badOut f c k a1.toNat i).1)) := Lib.hid (fun i hi => by rw [e1 i (by omega), ← LE.out]; simp [txts, hi, tv])
            have X2 : Hid (∀ i, i < m → w5.cell? ⟨g2, i, none⟩ = some (.bool (badOut f c k a1.toNat i).2)) := Lib.hid (fun i hi => by rw [e2 i (by omega), ← LE.out]; simp [bols, hi])
            have X3 : Hid (∀ i, i < m → w5.cell? ⟨g3, i, none⟩ = some (tv (badF f c k a1.toNat i))) := Lib.hid (fun i hi => by rw [e3 i (by omega)]; simp [hi])
            have f3 : w5.frozen? ⟨g3, k, none⟩ = false := hf3 k
            have N13 := Lib.hid N13; have N23 := Lib.hid N23
            have hB3 := Lib.hid (show w1.heap.size ≤ g3 from hb3)
            obtain ⟨u3, hk3'⟩ : ∃ u, w5.cell? ⟨g3, k, none⟩ = some u := ⟨_, X3.out k hkn⟩
            clear q1 q2 q3 hg1 hg2 e1 e2 e3 hl3 hg3 hz4 hf3 hs3 hb3
            go_wp2_with fail
            obtain ⟨w6, hw6⟩ : ∃ w6, w6 = w5 := ⟨_, rfl⟩
            have Y1 := X1; have Y2 := X2; have Y3 := X3; have C6 := Lib.hid (M.out.chg.trans C5.out)
            rw [← hw6] at Y1 Y2 Y3 C6 ⊢
            clear hw6
            clear hk3'
            go_loopw [19] (fun i ws => ∃ (q z : Nat), q ≤ m ∧ i = .int .i64 (q : Int) ∧ ws = World.drewN w6 z) (fun i _ => m - (intOf i).toNat)
            case atStart => exact ⟨0, 0, by omega, rfl, rfl⟩
            case round =>
              obtain ⟨q, z, hq, rfl, rfl⟩ := hrel
              by_cases hql : q < m
              · have d1 := Y1.out q hql; have d2 := Y2.out q hql; have d3 := Y3.out q hql
                have q0 : (0 : Int) ≤ (q : Int) := by omega
                have q1 : (q : Int) < (m : Int) := by omega
                unfold badOut at d1 d2
                by_cases hqk : q = k
                · have hqk2 : (q : Int) = (k : Int) := by omega
                  simp only [HO.out, hqk, true_and, and_true, if_true, if_false, Bool.false_eq_true, false_and] at d1 d2 d3
                  obtain ⟨t, ht⟩ : ∃ t, (badF f c k a1.toNat k) = t := ⟨_, rfl⟩
                  try rw [ht] at d1 d3
                  clear ht
                  simp only [tv] at d1 d3
                  go_wp2_with fail
                  go_quiet (fail)
                  go_wp2_with fail
                  go_roundw
                  case rel => exact ⟨q + 1, _, by omega, by go_num, by first | rfl | simp only [World.drewN_drewN]⟩
                  case measure => simp [intOf]; omega
                · have hqk2 : ¬ (q : Int) = (k : Int) := by omega
                  have hqk3 : ((q : Int) == (k : Int)) = false := by simp; omega
                  simp only [HO.out, hqk, true_and, and_true, and_false, if_true, if_false, Bool.false_eq_true, false_and] at d1 d2 d3
                  obtain ⟨t, ht⟩ : ∃ t, badF f c k a1.toNat q = t := ⟨_, rfl⟩
                  rw [ht] at d1 d3
                  clear ht
                  simp only [tv] at d1 d3
                  go_wp2_with fail
                  go_quiet (fail)
                  go_wp2_with fail
                  go_roundw
                  case rel => exact ⟨q + 1, _, by omega, by go_num, by first | rfl | simp only [World.drewN_drewN]⟩
                  case measure => simp [intOf]; omega
              · have q1 : ¬ (q : Int) < (m : Int) := by omega
                go_wp2_with fail
                go_ret
                exact ⟨rfl, ((C1.out.trans C6.out).drewN _).belowN⟩
end Go.Proofs.Ytjjppbfknjeddaa
