/- The document's reading of frames: walked. -/
import Derived.Test.YtbmopcmhokpchaaGreatDoorRefLog
import Derived.Test.YtbmopcmhokpchaaGreatDoorLogOpen
namespace Go.Proofs.YtbmopcmhokpchaaGreatDoor
open Go.RowKit
set_option linter.unusedVariables false
set_option linter.unusedSimpArgs false
attribute [local go_sem ↓] Go.wp_at_zero Go.wp_at_succ
structure ReadI (w wr : World) (oa : Option Addr) (m oc : Nat) (vs : List Value) (rs : List (List UInt8)) : Prop where
  own : Own wr w.heap.size 22 1 oa m oc vs
  recs : Recs wr w.heap.size vs rs
  sep : ∀ v ∈ vs, ∀ k, some k = blkV v → ¬ some k = blk oa
  chg : Chg Non w wr
theorem ReadI.non {w wr w2 : World} {oa : Option Addr} {m oc : Nat} {vs : List Value} {rs : List (List UInt8)} (h : ReadI w wr oa m oc vs rs) (hc : Chg Non wr w2) : ReadI w w2 oa m oc vs rs :=
  ⟨h.own.chg hc (fun _ _ h => h), h.recs.chg hc (fun _ _ _ _ h => h), h.sep, h.chg.trans hc⟩
theorem ReadI.snoc {w wr w4 w5 : World} {oa oa5 : Option Addr} {m oc oc5 : Nat} {vs : List Value} {rs : List (List UInt8)} (h : ReadI w wr oa m oc vs rs) (c4 : Chg Non wr w4) {a1 : Option Addr} {N c1 : Nat} {r : List UInt8} (hz : OwnZ w4 wr.heap.size 5 a1 N c1 (r.map bv))
    (o5 : Own w5 w.heap.size 22 1 oa5 (m + 1) oc5 (vs ++ [.slice a1 N c1])) {T : Prop} (c5 : Chg (fun k => some k = blk oa ∧ T) w4 w5) (b5 : blk oa5 = blk oa ∨ blk oa5 = some w4.heap.size) : ReadI w w5 oa5 (m + 1) oc5 (vs ++ [.slice a1 N c1]) (rs ++ [r]) := by
  have loa := h.own.lt
  have r5 := (h.recs.chg c4 (fun _ _ _ _ h => h)).chg c5 (fun v hv k hk e => h.sep v hv k hk e.1)
  have z5 := hz.chg c5 (fun k hk e => by have h1 := (hz.lt k hk).1; have h2 := (loa _ e.1).2; omega)
  refine ⟨o5, r5.snoc (z5.mono h.chg.size) (fun k hk v hv e => by have h1 := (hz.lt k hk).1; have h2 := (h.recs.lt v hv k e).2; omega), fun v hv k hk e => ?_, (h.chg.trans c4).next c5 (fun i hi e => by have := (loa _ e.1).1; omega)⟩
  rcases List.mem_append.1 hv with hv | hv
  · rcases b5 with b5 | b5
    · exact h.sep v hv k hk (e.trans b5)
    · rw [b5] at e
      cases e
      have h2 := (h.recs.lt v hv _ hk).2; have := c4.size; omega
  · simp only [List.mem_singleton] at hv
    subst hv
    have h1 := hz.lt k hk
    rcases b5 with b5 | b5
    · have h2 := (loa k (e.trans b5)).2; omega
    · rw [b5] at e
      cases e
      omega
def ReadE (w : World) (rs : List (List UInt8)) (e : Ending) (w' : World) : Prop := ∃ oa oc vs, e = .returned (.tuple #[.slice oa rs.length oc, .int .i64 (((flat rs).length : Nat) : Int)]) ∧ ReadI w w' oa rs.length oc vs rs
attribute [local go_sem ↓] run_load_row_op run_store_row_op in
set_option maxRecDepth 40000 in
set_option maxHeartbeats 3000000 in
theorem refRead_any {w : World} {b : Nat} {ao : Option Addr} {n cap : Nat} {bs rest : List UInt8} {rs : List (List UInt8)} (h : Rd w b ao n cap bs) (hF : Framed bs rs rest) (hn : n ≤ 100000) :
    Calls Tryz.prog 17 #[.slice ao n cap] w fun e w' => ReadE w rs e w' := by
  obtain ⟨i0, hi, hz0, hz1, hz2⟩ := info_parts Tryz.info_u8
  have Hi := Lib.hid hi; have Hz0 := Lib.hid hz0; have Hz1 := Lib.hid hz1; have Hz2 := Lib.hid hz2
  clear hi hz0 hz1 hz2
  obtain ⟨i1, hi1, hi2, hi3, hi4⟩ := info_parts Tryz.info_row
  have Hs1 := Lib.hid hi1; have Hs2 := Lib.hid hi2; have Hs3 := Lib.hid hi3; have Hs4 := Lib.hid hi4
  clear hi1 hi2 hi3 hi4
  have HR := Lib.hid h; have FR := Lib.hid hF
  have NB := Lib.hid h.1
  have hnc := h.2.1
  have hcm := h.2.2.1
  unfold maxLen at hcm
  clear h hF
  go_enter Tryz.func17, Tryz.ntmps17
  go_wp2_with fail
  go_loopw [4, 5] (fun out at_ wr => ∃ (i : Nat) (oa : Option Addr) (oc : Nat) (vs : List Value), i ≤ rs.length ∧ out = .slice oa i oc ∧ at_ = .int .i64 ((startB rs i : Nat) : Int) ∧ ReadI w wr oa i oc vs (rs.take i)) (fun _ at_ _ => n + 1 - (intOf at_).toNat)
  case atStart => exact ⟨0, none, 0, [], by omega, rfl, by rw [startB_zero]; rfl, ⟨Own.nil _ _ _ _, Recs.nil _ _, by simp, Chg.refl _ _⟩⟩
  case round =>
    obtain ⟨i, oa, oc, vs, hi, rfl, rfl, hI⟩ := hrel
    have RI := Lib.hid hI; have IL := Lib.hid hi
    have RD := Lib.hid (HR.out.chg hI.chg (fun h => h))
    have hsl := startB_le FR.out hi
    rw [NB.out] at hsl
    have hfr := framed_fr1 FR.out hi
    have NX := Lib.hid (fun r (h : rs[i]? = some r) => startB_succ h)
    have hil : i ≤ 100000 := by
      have h1 := startB_le FR.out (Nat.le_refl rs.length)
      rw [startB_all, NB.out] at h1
      have := flat_len rs
      omega
    clear hI hi
    obtain ⟨s, hs⟩ : ∃ s, startB rs i = s := ⟨_, rfl⟩
    rw [hs] at hsl hfr NX ⊢
    have HS := Lib.hid hs; have FR1 := Lib.hid hfr
    clear hs hfr
    have DONE : Hid (rs[i]? = none → i = rs.length ∧ s = (flat rs).length ∧ rs.take i = rs) := Lib.hid (fun hnone => by
      have hlen : i = rs.length := by have := List.getElem?_eq_none_iff.1 hnone; have := IL.out; omega
      refine ⟨hlen, ?_, by rw [hlen]; simp⟩
      rw [← HS.out, hlen, startB_all])
    by_cases c1 : s + 12 ≤ n
    · have k1 : (s : Int) + 12 ≤ (n : Int) := by omega
      obtain ⟨off, rfl, hcell⟩ := RD.out.2.2.2.2 (by omega)
      have d0 := hcell s (by omega); have d1 := hcell (s + 1) (by omega); have d2 := hcell (s + 2) (by omega); have d3 := hcell (s + 3) (by omega)
      simp only [bv] at d0 d1 d2 d3
      have HC := Lib.hid hcell
      clear hcell
      obtain ⟨x0, hx0⟩ : ∃ x, bs.getD s 0 = x := ⟨_, rfl⟩
      obtain ⟨x1, hx1⟩ : ∃ x, bs.getD (s + 1) 0 = x := ⟨_, rfl⟩
      obtain ⟨x2, hx2⟩ : ∃ x, bs.getD (s + 2) 0 = x := ⟨_, rfl⟩
      obtain ⟨x3, hx3⟩ : ∃ x, bs.getD (s + 3) 0 = x := ⟨_, rfl⟩
      rw [hx0] at d0; rw [hx1] at d1; rw [hx2] at d2; rw [hx3] at d3
      have hn4 : num4 (bs.drop s) = x0.toNat * 16777216 + x1.toNat * 65536 + x2.toNat * 256 + x3.toNat := by
        simp only [num4, List.getD, List.getElem?_drop, Nat.add_zero] at hx0 hx1 hx2 hx3 ⊢
        rw [hx0, hx1, hx2, hx3]
      clear hx0 hx1 hx2 hx3
      have l0 := x0.toNat_lt; have l1 := x1.toNat_lt; have l2 := x2.toNat_lt; have l3 := x3.toNat_lt
      have s0 : (0 : Int) ≤ (s : Int) := by omega
      have s1 : (s : Int) + 3 < (n : Int) := by omega
      obtain ⟨N, hN⟩ : ∃ N, num4 (bs.drop s) = N := ⟨_, rfl⟩
      have hor : bits .or .i64 (bits .or .i64 (bits .or .i64 ((x0.toNat : Int) * 16777216) ((x1.toNat : Int) * 65536)) ((x2.toNat : Int) * 256)) (x3.toNat : Int) = (N : Int) := by
        rw [or_four l0 l1 l2 l3, ← hN, hn4]
      have NN := Lib.hid hN
      clear hN hn4
      go_wp2_with fail
      go_quiet (fail)
      try rw [hor]
      clear hor d0 d1 d2 d3 l0 l1 l2 l3 s0 s1 k1
      by_cases c2 : N ≤ 16777216
      · have k2 : ¬ 16777216 < (N : Int) := by omega
        by_cases c3 : s + 4 + N + 8 ≤ n
        · have k3 : ¬ (n : Int) < (s : Int) + 12 + (N : Int) := by omega
          go_wp2_with fail
          have e4 : s + 4 + N - s = 4 + N := by omega
          try rw [e4]
          have hcut := Rd.cut RD.out (i := s) (L := 4 + N) (by omega) (by omega)
          refine Calls.mono (refOf_any (hcut.drewN _) (by omega)) ?_
          rintro e w3 ⟨rfl, hc3⟩
          obtain ⟨S, hS⟩ : ∃ S, sha ((bs.drop s).take (4 + N)) = S := ⟨_, rfl⟩
          have SL : S.length = 32 := by rw [← hS, sha_length]
          rw [hS]
          have HS2 := Lib.hid hS
          clear hS hcut
          obtain ⟨W4, p4, q4, e5, c4, z4⟩ := new32 w3 SL
          rw [zero32_lit] at p4 q4
          have C4 : Hid (Chg Non wr W4) := Lib.hid (((Chg.refl _ wr).drewN nq).trans (hc3.trans c4))
          have E4 := Lib.hid e5
          have SLN := Lib.hid SL
          have R4 := Lib.hid (RI.out.non C4.out)
          have X4 : Hid (∀ i, i < n → W4.cell? ⟨b, off + i, none⟩ = some (bv (bs.getD i 0))) := Lib.hid (fun i hi => by
            obtain ⟨off', ho', hc'⟩ := (RD.out.chg C4.out (fun h => h)).2.2.2.2 (by omega)
            obtain rfl : off' = off := by simpa using ho'.symm
            exact hc' i hi)
          clear hc3 e5 c4 z4 SL
          go_wp2_with fail
          obtain ⟨x4, hx4⟩ : ∃ x4, x4 = w3.heap.size := ⟨_, rfl⟩
          rw [← hx4] at E4 ⊢
          clear hx4 p4 q4
          go_loopw [8] (fun i8 ws => ∃ (j z : Nat), j ≤ 8 ∧ i8 = .int .i64 (j : Int) ∧ ws = World.drewN W4 z ∧ (∀ q, q < j → S.getD q 0 = bs.getD (s + 4 + N + q) 0)) (fun i8 _ => 8 - (intOf i8).toNat)
          case atStart => exact ⟨0, 0, by omega, rfl, rfl, fun q hq => by omega⟩
          case round =>
            obtain ⟨j, z, hj, rfl, rfl, heq⟩ := hrel
            have EQ := Lib.hid heq
            clear heq
            by_cases hj8 : j < 8
            · have d1 := X4.out (s + 4 + N + j) (by omega)
              have d2 : W4.cell? ⟨x4, j, none⟩ = some (bv (S.getD j 0)) := by
                rw [cell_of_row _ x4 j _ _ _ E4.out]
                simp [List.getD, show j < S.length by have := SLN.out; omega]
              simp only [bv] at d1 d2
              obtain ⟨y1, hy1⟩ : ∃ y, bs.getD (s + 4 + N + j) 0 = y := ⟨_, rfl⟩
              obtain ⟨y2, hy2⟩ : ∃ y, S.getD j 0 = y := ⟨_, rfl⟩
              rw [hy1] at d1; rw [hy2] at d2
              have HY := Lib.hid (And.intro hy1 hy2)
              clear hy1 hy2
              have l1 := y1.toNat_lt; have l2 := y2.toNat_lt
              have j0 : (0 : Int) ≤ (j : Int) := by omega
              have j1 : (j : Int) < 8 := by omega
              have j2 : (j : Int) < 32 := by omega
              have s0 : (0 : Int) ≤ (s : Int) + 4 + (N : Int) + (j : Int) := by omega
              have s1 : (s : Int) + 4 + (N : Int) + (j : Int) < (n : Int) := by omega
              have t1 : ((s : Int) + 4 + (N : Int) + (j : Int)).toNat = s + 4 + N + j := by omega
              by_cases hye : y1 = y2
              · subst hye
                go_wp2_with fail
                go_quiet (fail)
                go_wp2_with fail
                go_roundw
                case rel => exact ⟨j + 1, _, by omega, by go_num, by first | rfl | simp only [World.drewN_drewN], fun q hq => by
                  by_cases e : q = j
                  · rw [e, HY.out.1, HY.out.2]
                  · exact EQ.out q (by omega)⟩
                case measure => simp [intOf]; omega
              · have hne : ((y1.toNat : Int) == (y2.toNat : Int)) = false := by
                  rw [beq_eq_false_iff_ne]; intro e; exact hye (UInt8.toNat_inj.1 (by omega))
                have hnone : rs[i]? = none := by
                  rw [← FR1.out]; unfold fr1
                  rw [NN.out, if_neg]
                  rintro ⟨_, _, _, h4⟩
                  rw [HS2.out, List.drop_drop, show s + (4 + N) = s + 4 + N by omega] at h4
                  have h5 := congrArg (fun l : List UInt8 => l.getD j 0) h4
                  simp only [List.getD, List.getElem?_take, if_pos hj8, List.getElem?_drop] at h5
                  have h6 := HY.out
                  simp only [List.getD] at h6
                  rw [h6.1, h6.2] at h5
                  exact hye h5.symm
                obtain ⟨q1, q2, q3⟩ := DONE.out hnone
                have Q1 := Lib.hid q1; have Q2 := Lib.hid q2; have Q3 := Lib.hid q3
                clear hnone q1 q2 q3
                go_wp2_with fail
                go_quiet (fail)
                go_wp2_with fail
                go_ret2
                refine ⟨oa, oc, vs, by (rw [← Q1.out, ← Q2.out]; rfl), ?_⟩
                have := R4.out.non (((Chg.refl _ _).drewN z).drewN nq)
                rw [Q3.out] at this
                rw [← Q1.out]; exact this
            · obtain rfl : j = 8 := by omega
              have hrec : rs[i]? = some (((bs.drop s).drop 4).take N) := by
                have hsum : (sha ((bs.drop s).take (4 + N))).take 8 = ((bs.drop s).drop (4 + N)).take 8 := by
                  rw [HS2.out, List.drop_drop, show s + (4 + N) = s + 4 + N by omega]
                  apply List.ext_getElem?
                  intro q
                  rw [List.getElem?_take, List.getElem?_take]
                  by_cases hq : q < 8
                  · rw [if_pos hq, if_pos hq, List.getElem?_drop]
                    have h1 := EQ.out q hq
                    have hl1 : q < S.length := by have := SLN.out; omega
                    have hl2 : s + 4 + N + q < bs.length := by have := NB.out; omega
                    simp only [List.getD, List.getElem?_eq_getElem hl1, List.getElem?_eq_getElem hl2, Option.getD_some] at h1
                    rw [List.getElem?_eq_getElem hl1, List.getElem?_eq_getElem hl2, h1]
                  · rw [if_neg hq, if_neg hq]
                rw [← FR1.out]; unfold fr1
                rw [NN.out, if_pos ⟨by rw [List.length_drop, NB.out]; omega, c2, by rw [List.length_drop, NB.out]; omega, hsum⟩]
              obtain ⟨r, hr⟩ : ∃ r, ((bs.drop s).drop 4).take N = r := ⟨_, rfl⟩
              have hrn : r.length = N := by rw [← hr, List.length_take, List.length_drop, List.length_drop, NB.out]; omega
              rw [hr] at hrec
              have hcut := Rd.cut (RD.out.chg C4.out (fun h => h)) (i := s + 4) (L := N) (by omega) (by omega)
              rw [← List.drop_drop, hr] at hcut
              have RC : Hid (∀ q, Rd (W4.drewN q) b (some ⟨b, off + (s + 4), none⟩) N (cap - (s + 4)) r) := Lib.hid (fun q => hcut.drewN q)
              have hst := NX.out r hrec
              have HREC := Lib.hid hrec; have HST := Lib.hid hst; have HRN := Lib.hid hrn
              have hil2 : i < rs.length := (List.getElem?_eq_some_iff.1 hrec).1
              have hNb : N ≤ 100000 := by omega
              have n2 : ¬ cap = s + 4 := by omega
              have s0 : (0 : Int) ≤ (s : Int) + 4 := by omega
              have s1 : (s : Int) + 4 ≤ (s : Int) + 4 + (N : Int) := by omega
              have s2 : (s : Int) + 4 + (N : Int) ≤ (cap : Int) := by omega
              have t1 : ((s : Int) + 4).toNat = s + 4 := by omega
              have t2 : ((s : Int) + 4 + (N : Int)).toNat = s + 4 + N := by omega
              have ZB := Lib.hid (show w.heap.size ≤ W4.heap.size from R4.out.chg.size)
              clear hr hrec hrn hcut hst
              go_wp2_with (first
                | (at_builtin; refine wpList_append_Own rfl _ _ 22 22 rfl W4.heap.size 5 1 1 i0 (.int .u8 0) Tryz.underlying22 Hi.out Hz0.out Hz1.out rfl Hz2.out none 0 0 [] rfl (Own.nil _ _ _ _) _ N (r.map bv) rfl ((RC.out _).src Tryz.underlying22) (by unfold maxLen; omega) (by omega) (by simp) ?_; intro a1 c1 w5 hown hchg hb _; rw [Nat.zero_add, List.nil_append] at hown; rw [Nat.zero_add]; have O5 := Lib.hid hown; have C5 : Hid (Chg Non W4 w5) := Lib.hid (((Chg.refl Non W4).drewN _).next hchg (fun i hi e => by have := e.1; simp [blk] at this)); have R5 := Lib.hid (R4.out.own.chg C5.out (fun _ _ h => h)); have ZB5 := Lib.hid (Nat.le_trans ZB.out C5.out.size); clear hown hchg hb)
                | (at_builtin; refine wpList_append_Own rfl _ _ 49 49 rfl w.heap.size 22 1 24 i1 (.slice none 0 0) Tryz.underlying49 Hs1.out Hs2.out Hs3.out rfl Hs4.out oa i oc vs rfl (R5.out.alloc _) _ 1 _ rfl (Src.cells Tryz.underlying49 (heap_alloc_new _ _) 1 1 1 (by rfl) (by simp [Value.oneCell'])) (by unfold maxLen; omega) (by omega) (by have := ZB5.out; simp <;> omega) ?_; intro oa6 oc6 w6 hown hchg hb _; have R6 := Lib.hid (R4.out.snoc (C5.out.alloc _) (OwnZ.chg (S := Non) (.inl O5.out) ((Chg.refl _ _).alloc _) (fun _ _ h => h)) (by simpa using hown) hchg hb); clear hown hchg hb))
              go_roundw
              case rel =>
                have hR := R6.out
                refine ⟨i + 1, oa6, oc6, vs ++ [.slice a1 N c1], hil2, rfl, ?_, ?_⟩
                · rw [HST.out, HRN.out]; go_num
                · rw [List.take_succ_eq_append_getElem hil2, show rs[i] = r by have := HREC.out; rw [List.getElem?_eq_getElem hil2] at this; exact Option.some.inj this]
                  exact hR
              case measure => simp [intOf]; omega
        · have k3 : (n : Int) < (s : Int) + 12 + (N : Int) := by omega
          have hnone : rs[i]? = none := by rw [← FR1.out]; unfold fr1; rw [NN.out, if_neg (by rw [List.length_drop, NB.out]; omega)]
          obtain ⟨q1, q2, q3⟩ := DONE.out hnone
          have Q1 := Lib.hid q1; have Q2 := Lib.hid q2; have Q3 := Lib.hid q3
          clear hnone q1 q2 q3
          go_wp2_with fail
          go_ret2
          refine ⟨oa, oc, vs, by (rw [← Q1.out, ← Q2.out]; rfl), ?_⟩
          have := RI.out.non ((Chg.refl _ _).drewN nq)
          rw [Q3.out] at this
          rw [← Q1.out]; exact this
      · have k2 : 16777216 < (N : Int) := by omega
        have hnone : rs[i]? = none := by rw [← FR1.out]; unfold fr1; rw [NN.out, if_neg (by omega)]
        obtain ⟨q1, q2, q3⟩ := DONE.out hnone
        have Q1 := Lib.hid q1; have Q2 := Lib.hid q2; have Q3 := Lib.hid q3
        clear hnone q1 q2 q3
        go_wp2_with fail
        go_ret2
        refine ⟨oa, oc, vs, by (rw [← Q1.out, ← Q2.out]; rfl), ?_⟩
        have := RI.out.non ((Chg.refl _ _).drewN nq)
        rw [Q3.out] at this
        rw [← Q1.out]; exact this
    · have k1 : ¬ (s : Int) + 12 ≤ (n : Int) := by omega
      have hnone : rs[i]? = none := by rw [← FR1.out]; unfold fr1; rw [if_neg (by rw [List.length_drop, NB.out]; omega)]
      obtain ⟨q1, q2, q3⟩ := DONE.out hnone
      have Q1 := Lib.hid q1; have Q2 := Lib.hid q2; have Q3 := Lib.hid q3
      clear hnone q1 q2 q3
      go_wp2_with fail
      go_ret2
      refine ⟨oa, oc, vs, by (rw [← Q1.out, ← Q2.out]; rfl), ?_⟩
      have := RI.out
      rw [Q3.out] at this
      rw [← Q1.out]; exact this
end Go.Proofs.YtbmopcmhokpchaaGreatDoor
