/- LogPower, walked. -/
import Derived.Test.YtbmopcmhokpchaaLogAdds
namespace Go.Proofs.Ytbmopcmhokpchaa
open Go.RowKit
set_option linter.unusedVariables false
set_option linter.unusedSimpArgs false
attribute [local go_sem ↓] Go.wp_at_zero Go.wp_at_succ
theorem ba_list (s : ByteArray) : ∃ l : List UInt8, s = ⟨l.toArray⟩ := ⟨s.data.toList, by cases s; simp⟩
def upto (f : Nat → List UInt8) (j : Nat) : List (List UInt8) := (List.range j).map f
theorem upto_succ (f : Nat → List UInt8) (j : Nat) : upto f (j + 1) = upto f j ++ [f j] := by simp [upto, List.range_succ]
theorem upto_flat (f : Nat → List UInt8) : ∀ j, (flat (upto f j)).length = sumL f j + 12 * j
  | 0 => rfl
  | j + 1 => by
    rw [upto_succ, flat_snoc, List.length_append, upto_flat f j, frameB_length]
    simp only [sumL]
    omega
theorem DiskAt.far {w w' : World} {B p B2 p2 : Nat} {ao a2 a3 : Option Addr} {cap size sure c2 s2 r2 c3 s3 : Nat} {bs b2 b3 : List UInt8} (h : DiskAt w B p ao cap size sure bs) (h2 : DiskAt w B2 p2 a2 c2 s2 r2 b2) (hp : p < B2) (ha : ∀ k, some k = blk ao → k < B2)
    (hs : DiskTo w w' B2 p2 a2 a3 c3 s2 s3 b3) : DiskAt w' B p ao cap size sure bs :=
  h.chg hs.chg (fun e => by
    have := h2.base
    rcases e with e | e
    · omega
    · have := (h2.own.lt _ e).1; omega) (fun k hk e => by
    have := h2.base
    have h1 := ha k hk
    rcases e with e | e
    · omega
    · have := (h2.own.lt _ e).1; omega)
set_option maxRecDepth 40000 in
set_option maxHeartbeats 3000000 in
theorem LogPower_any {w : World} {ao : Option Addr} {n cap : Nat} {f : Nat → List UInt8} (h : Strs w ao n cap f) (hb : ∀ i, i < n → (f i).length ≤ reachBytes) (t : List UInt8) (ht : t.length ≤ reachBytes) {x : Int} (hx : (Lit.int .u16 x).wf = true) :
    Calls Try.prog 11 #[.slice ao n cap, .string ⟨t.toArray⟩, .int .u16 x] w fun e w' => e = .returned (.bool true) ∧ Below w.heap.size w w' := by
  have hxb : 0 ≤ x ∧ x ≤ 65535 := by
    simp [Lit.wf, IntKind.min, IntKind.max] at hx
    first | omega | (simp [IntKind.signed, IntKind.bits] at hx; omega)
  clear hx
  obtain ⟨X, rfl⟩ := Int.eq_ofNat_of_zero_le hxb.1
  have hX : X ≤ 65535 := by omega
  have hwx : wrap64 (X : Int) = (X : Int) := by unfold wrap64; omega
  clear hxb
  have hb2 : ∀ i, i < n → (f i).length ≤ 140737488351232 := fun i hi => by have := hb i hi; unfold reachBytes at this; omega
  have ht2 : t.length ≤ 140737488351232 := by unfold reachBytes at ht; omega
  have hcm := h.2.1
  have hnc := h.1
  unfold maxLen at hcm
  have HL := Lib.hid h; have HB := Lib.hid hb2
  clear h hb hb2 ht
  by_cases hn : n ≤ 200
  · go_enter Try.func11, Try.ntmps11
    go_wp2_with fail
    go_loopw [7, 8] (fun z i wr => ∃ k : Nat, k ≤ n ∧ z = .int .i64 ((t.length + sumL f k : Nat) : Int) ∧ i = .int .i64 (k : Int) ∧ w = wr) (fun _ i _ => n - (intOf i).toNat)
    case atStart => exact ⟨0, by omega, by simp [sumL], rfl, rfl⟩
    case round =>
      obtain ⟨k, hk, rfl, rfl, rfl⟩ := hrel
      by_cases hlt : k < n
      · obtain ⟨b, off, rfl, hbl, hcell⟩ := HL.out.2.2.2 (by omega)
        have e1 := hcell k hlt
        have hl1 := HB.out k hlt
        have hl2 := sumL_le (f := f) (M := 140737488351232) (k := k) (fun i hi => HB.out i (by omega))
        have hl3 : k * 140737488351232 ≤ 200 * 140737488351232 := Nat.mul_le_mul_right _ (by omega)
        clear hcell
        obtain ⟨s, hs⟩ : ∃ s, t.length + sumL f k = s := ⟨_, rfl⟩
        obtain ⟨r, hr⟩ : ∃ r, f k = r := ⟨_, rfl⟩
        have hsn : t.length + sumL f (k + 1) = s + r.length := by rw [← hs, ← hr]; simp only [sumL]; omega
        have hsb : s ≤ 201 * 140737488351232 := by omega
        rw [hs]
        rw [hr] at e1 hl1
        have HSN := Lib.hid hsn
        clear hs hr hsn hl2
        simp only [tv] at e1
        have k0 : (0 : Int) ≤ (k : Int) := by omega
        have k1 : (k : Int) < (n : Int) := by omega
        go_wp2_with fail
        go_roundw
        case rel => exact ⟨k + 1, by omega, by rw [HSN.out]; go_num, by go_num, by first | rfl | trivial⟩
        case measure => simp [intOf]; omega
      · obtain rfl : k = n := by omega
        obtain ⟨s, hs⟩ : ∃ s, t.length + sumL f k = s := ⟨_, rfl⟩
        rw [hs]
        have HS := Lib.hid hs
        clear hs
        by_cases hbig : 20000 < s
        · have k2 : (20000 : Int) < (s : Int) := by omega
          go_wp2_with fail
          refine Calls.mono (lives20_any _) ?_
          rintro e w1 ⟨rfl, hc1⟩
          go_wp2_with fail
          go_ret
          exact ⟨rfl, hc1.belowN⟩
        · have k2 : ¬ (20000 : Int) < (s : Int) := by omega
          have k3 : ¬ (200 : Int) < (k : Int) := by omega
          go_wp2_with fail
          refine Calls.mono (New_of (size := 100000) (by rfl) (by omega)) ?_
          rintro e w1 ⟨rfl, hd1, hc1⟩
          have D1 := Lib.hid hd1
          have C1 := Lib.hid hc1
          clear hd1 hc1
          obtain ⟨p, hp⟩ : ∃ p, p = w.heap.size := ⟨_, rfl⟩
          have HP := Lib.hid hp
          rw [← hp]
          clear hp
          go_wp2_with fail
          go_loopw [11] (fun i wr => ∃ (j : Nat) (ad : Option Addr) (cd : Nat), j ≤ k ∧ i = .int .i64 (j : Int) ∧ DiskAt wr w.heap.size p ad cd 100000 (sumL f j + 12 * j) (flat (upto f j)) ∧ Chg Non w wr) (fun i _ => k - (intOf i).toNat)
          case atStart => exact ⟨0, none, 0, by omega, rfl, by rw [HP.out]; exact D1.out, C1.out⟩
          case round =>
            clear D1 C1
            obtain ⟨j, ad, cd, hj, rfl, hD, hC⟩ := hrel
            have DD := Lib.hid hD; have CC := Lib.hid hC
            clear hD hC
            have hs2 := sumL_mono (f := f) (j := j) (k := k) (by omega)
            have hs9 := HS.out
            by_cases hlt : j < k
            · obtain ⟨b, off, rfl, hbl, hcell⟩ := (HL.out.chg CC.out).2.2.2 (by omega)
              have e1 := hcell j hlt
              have hs1 := sumL_at (f := f) hlt
              obtain ⟨r, hr⟩ : ∃ r, f j = r := ⟨_, rfl⟩
              obtain ⟨R, hR⟩ : ∃ R, r.length = R := ⟨_, rfl⟩
              rw [hr, hR] at hs1
              have hU : (flat (upto f j)).length = sumL f j + 12 * j := upto_flat f j
              have hU2 : (flat (upto f (j + 1))) = flat (upto f j) ++ frameB r := by rw [upto_succ, flat_snoc, hr]
              have hU3 : sumL f (j + 1) + 12 * (j + 1) = sumL f j + 12 * j + (R + 12) := by simp only [sumL]; rw [hr, hR]; omega
              obtain ⟨U, hUU⟩ : ∃ U, sumL f j + 12 * j = U := ⟨_, rfl⟩
              rw [hUU] at hU hU3
              have UB : U ≤ 22400 := by omega
              have RB : R ≤ 20000 := by omega
              have HU := Lib.hid hU; have HU2 := Lib.hid hU2; have HU3 := Lib.hid hU3; have HR := Lib.hid hR
              have DU : Hid (DiskAt wr w.heap.size p ad cd 100000 U (flat (upto f j))) := Lib.hid (by rw [← hUU]; exact DD.out)
              rw [hr] at e1
              simp only [tv] at e1
              clear hcell hr hR hU hU2 hU3 hUU hs1 hs2 hs9 DD
              have k0 : (0 : Int) ≤ (j : Int) := by omega
              have k1 : (j : Int) < (k : Int) := by omega
              obtain ⟨cc, wc, hcv, hrc, hcc⟩ := conv_bytes wr r HR.out (by unfold maxLen; omega)
              have RC := Lib.hid hrc
              have DC := Lib.hid (DU.out.chg hcc (fun h => h) (fun _ _ h => h))
              have C2 := Lib.hid (CC.out.trans hcc)
              have PL := Lib.hid (show p < wr.heap.size from DU.out.lt)
              have DL := Lib.hid (fun q (hq : some q = blk ad) => (DU.out.own.lt q hq).2)
              clear hrc hcc
              go_wp2_with fail
              refine Calls.mono (Add_any DC.out RC.out (fun e => by
                rcases e with e | e
                · have := PL.out; omega
                · have := DL.out _ e; omega) (by omega)) ?_
              rw [HU.out]
              rintro e w2 ⟨ff, a2, c2, rfl, ⟨hfit, rfl, hd⟩ | ⟨hfull, _⟩⟩
              · have D2 := hd.at_
                rw [← HU2.out, ← HU3.out] at D2
                have DD2 := Lib.hid D2
                have C3 := Lib.hid (DC.out.next (Nat.le_refl _) C2.out hd.chg)
                clear D2 hd e1 hcv
                go_wp2_with fail
                go_roundw
                case rel => exact ⟨j + 1, a2, c2, by omega, by go_num, DD2.out, C3.out⟩
                case measure => simp [intOf]; omega
              · omega
            · obtain rfl : j = k := by omega
              have k1 : ¬ (j : Int) < (j : Int) := by omega
              have hU : (flat (upto f j)).length = sumL f j + 12 * j := upto_flat f j
              obtain ⟨U, hUU⟩ : ∃ U, sumL f j + 12 * j = U := ⟨_, rfl⟩
              rw [hUU] at hU
              have UB : U ≤ 22400 := by omega
              have DU : Hid (DiskAt wr w.heap.size p ad cd 100000 U (flat (upto f j))) := Lib.hid (by rw [← hUU]; exact DD.out)
              have HU := Lib.hid hU
              obtain ⟨acc, hacc⟩ : ∃ acc, upto f j = acc := ⟨_, rfl⟩
              rw [hacc] at DU HU
              have HA := Lib.hid hacc
              obtain ⟨T, hT⟩ : ∃ T, t.length = T := ⟨_, rfl⟩
              have HT := Lib.hid hT
              have TB : T ≤ 20000 := by omega
              clear hU hUU hacc hT ht2 hs2 hs9 DD
              obtain ⟨cc, wc, hcv, hrc, hcc⟩ := conv_bytes wr t HT.out (by unfold maxLen; omega)
              have RC := Lib.hid hrc
              have DC := Lib.hid (DU.out.chg hcc (fun h => h) (fun _ _ h => h))
              have C2 := Lib.hid (CC.out.trans hcc)
              clear hrc hcc
              go_wp2_with fail
              refine Calls.mono (Frame_any RC.out (by omega)) ?_
              rintro e w2 ⟨a2, rfl, ho2, hc2⟩
              obtain ⟨g2, _, hr2⟩ := Rd.of_Own ho2
              have R2 := Lib.hid hr2
              have D2 := Lib.hid (DC.out.chg hc2 (fun h => h) (fun _ _ h => h))
              have C3 := Lib.hid (C2.out.trans hc2)
              clear ho2 hr2 hc2 hcv
              go_wp2_with fail
              refine Calls.mono (Append_to D2.out R2.out) ?_
              rw [HU.out]
              rintro e w3 ⟨ff, a3, c3, rfl, ⟨_, rfl, hd⟩ | ⟨hfull, _⟩⟩
              · have D3 := Lib.hid hd.at_
                have C4 := Lib.hid (D2.out.next (Nat.le_refl _) C3.out hd.chg)
                clear hd
                obtain ⟨K, hK⟩ : ∃ K, X % (T + 13) = K := ⟨_, rfl⟩
                have hK2 : K ≤ T + 12 := by rw [← hK]; have := Nat.mod_lt X (show T + 13 > 0 by omega); omega
                have hkt : (X : Int).tmod ((T : Int) + 13) = (K : Int) := by rw [← hK, Int.tmod_eq_emod_of_nonneg (by omega)]; push_cast; rfl
                have hkt2 : (X : Int).tmod ((T : Int) + 12 + 1) = (K : Int) := by rw [show (T : Int) + 12 + 1 = (T : Int) + 13 by omega]; exact hkt
                have hz1 : ¬ ((T : Int) + 12 + 1) = 0 := by omega
                have hz2 : ¬ ((T : Int) + 13) = 0 := by omega
                clear hK
                go_wp2_with fail
                refine Calls.mono (Fail_of (m := K) D3.out (by rfl) (by unfold maxLen; omega)) ?_
                rintro e w4 ⟨pc, gc, rfl, hdc, hc4⟩
                have hfb := frameB_length t
                rw [HT.out] at hfb
                have hle3 : (flat acc ++ frameB t).length = U + (T + 12) := by rw [List.length_append, HU.out, hfb]
                have htk : (flat acc ++ frameB t).take (U + K) = flat acc ++ (frameB t).take K := by rw [List.take_append, HU.out, List.take_of_length_le (by have := HU.out; omega), Nat.add_sub_cancel_left]
                rw [htk, hle3, show min (U + (T + 12)) (U + K) = U + K by omega] at hdc
                have hlea : ∀ r ∈ acc, r.length ≤ 16777216 := by
                  intro r hr
                  rw [← HA.out] at hr
                  obtain ⟨i, hi, rfl⟩ := List.mem_map.1 hr
                  have := sumL_at (f := f) (List.mem_range.1 hi)
                  have := HS.out
                  omega
                obtain ⟨rs, hrs⟩ : ∃ rs, rs = (if K = T + 12 then acc ++ [t] else acc) := ⟨_, rfl⟩
                have hfr : ∃ rest, Framed (flat acc ++ (frameB t).take K) rs rest := by
                  by_cases e : K = T + 12
                  · rw [hrs, if_pos e, e, List.take_of_length_le (by omega), ← flat_snoc]
                    exact ⟨[], framed_flat (fun r hr => by
                      rcases List.mem_append.1 hr with hr | hr
                      · exact hlea r hr
                      · rw [List.mem_singleton.1 hr]; have := HT.out; omega)⟩
                  · rw [hrs, if_neg e]
                    exact ⟨_, framed_cut hlea (r := t) (by have := HT.out; omega) (by have := HT.out; omega)⟩
                have hacl : acc.length = j := by rw [← HA.out]; simp [upto]
                have hcl : (flat acc ++ (frameB t).take K).length ≤ 100000 := hdc.le
                have DF := Lib.hid hdc
                have D4 := Lib.hid (D3.out.chg hc4 (fun h => h) (fun _ _ h => h))
                have C5 := Lib.hid (C4.out.trans hc4)
                have FR := Lib.hid hfr; have RSE := Lib.hid hrs; have ACL := Lib.hid hacl; have LE3 := Lib.hid hle3
                have PB := Lib.hid (show p < w3.heap.size from D3.out.lt)
                have AB := Lib.hid (fun q (hq : some q = blk a3) => (D3.out.own.lt q hq).2)
                have HZ := Lib.hid hc4.size
                clear hdc hc4 hfb hle3 htk hlea hfr hacl hcl hrs hz1 hz2 hkt hkt2
                obtain ⟨M, hM⟩ : ∃ M, rs.length = M := ⟨_, rfl⟩
                have HM := Lib.hid hM
                clear hM
                by_cases hKT : K = T + 12
                · have hKe : ((K : Int) == (T : Int) + 12) = true := by simp; omega
                  have hMj : (M : Int) = (j : Int) + 1 := by rw [← HM.out, RSE.out, if_pos hKT, List.length_append, ACL.out]; simp
                  have HRQ : Hid (∀ q, q < M → (q < j → rs[q]? = some (f q)) ∧ (¬ q < j → rs[q]? = some t)) := Lib.hid (fun q hq => by
                    rw [RSE.out, if_pos hKT]
                    refine ⟨fun h => ?_, fun h => ?_⟩
                    · rw [List.getElem?_append_left (by rw [ACL.out]; exact h), ← HA.out]; simp [upto, h]
                    · obtain rfl : q = j := by omega
                      rw [List.getElem?_append_right (by rw [ACL.out]; exact Nat.le_refl _), ACL.out, Nat.sub_self]; rfl)
                  go_wp2_with fail
                  go_loopw [17] (fun i wr => ∃ (v : Nat) (ac : Option Addr) (cc sc : Nat) (bs' rest : List UInt8), v ≤ 2 ∧ i = .int .i64 (v : Int) ∧ DiskAt wr w3.heap.size pc ac cc 100000 sc bs' ∧ Framed bs' rs rest ∧ DiskAt wr w.heap.size p a3 c3 100000 U (flat acc ++ frameB t) ∧ Chg Non w wr) (fun i _ => 2 - (intOf i).toNat)
                  case atStart =>
                    obtain ⟨rest, hfr⟩ := FR.out
                    exact ⟨0, _, _, _, _, rest, by omega, rfl, DF.out, hfr, D4.out, C5.out⟩
                  case round =>
                    clear DF D4 C5 FR
                    obtain ⟨v, ac, cc, sc, bs', rest, hv, rfl, hdc, hfr, hd, hc⟩ := hrel
                    have DF := Lib.hid hdc; have FR := Lib.hid hfr; have D4 := Lib.hid hd; have C5 := Lib.hid hc
                    clear hdc hfr hd hc
                    by_cases hv2 : v < 2
                    · have v1 : (v : Int) < 2 := by omega
                      go_wp2_with fail
                      refine Calls.mono (Open_any DF.out FR.out (by have := DF.out.le; omega)) ?_
                      rw [HM.out]
                      rintro e w6 ⟨oa, vs, a6, c6, s6, rfl, hz, hr, hsp, hd6, _, _⟩
                      have D6 := Lib.hid (D4.out.far DF.out PB.out AB.out hd6)
                      have C6 := Lib.hid (DF.out.next (by have := C4.out.size; exact this) C5.out hd6.chg)
                      have F6 := Lib.hid hd6.at_; have ZZ := Lib.hid hz; have RR := Lib.hid hr
                      have FL : Hid (Framed (flat rs) rs []) := Lib.hid (framed_flat FR.out.le)
                      clear hz hr hsp hd6
                      go_wp2_with fail
                      go_loopw [20] (fun i ws => ∃ q : Nat, q ≤ M ∧ i = .int .i64 (q : Int) ∧ w6 = ws) (fun i _ => M - (intOf i).toNat)
                      case atStart => exact ⟨0, by omega, rfl, rfl⟩
                      case round =>
                        obtain ⟨q, hq, rfl, rfl⟩ := hrel
                        by_cases hql : q < M
                        · obtain ⟨g1, rfl, _, hc1⟩ := ZZ.out.at_ (by omega)
                          have q0 : (0 : Int) ≤ (q : Int) := by omega
                          have q1 : (q : Int) < (M : Int) := by omega
                          by_cases hqj : q < j
                          · have hget := (HRQ.out q hql).1 hqj
                            obtain ⟨aq, cq, hv, hs⟩ := RR.out.str hget
                            have d1 := (hc1 q hql).trans hv
                            obtain ⟨b, off, rfl, hbl, hcell⟩ := (HL.out.chg C6.out).2.2.2 (by omega)
                            have e1 := hcell q hqj
                            obtain ⟨y, hy⟩ : ∃ y, f q = y := ⟨_, rfl⟩
                            rw [hy] at d1 e1 hs
                            simp only [tv] at e1
                            clear hc1 hget hv hcell hy
                            have q2 : (q : Int) < (j : Int) := by omega
                            go_wp2_with fail
                            go_roundw
                            case rel => exact ⟨q + 1, by omega, by go_num, by first | rfl | trivial⟩
                            case measure => simp [intOf]; omega
                          · have hget := (HRQ.out q hql).2 hqj
                            obtain ⟨aq, cq, hv, hs⟩ := RR.out.str hget
                            have d1 := (hc1 q hql).trans hv
                            clear hc1 hget hv
                            have q2 : ¬ (q : Int) < (j : Int) := by omega
                            go_wp2_with fail
                            go_roundw
                            case rel => exact ⟨q + 1, by omega, by go_num, by first | rfl | trivial⟩
                            case measure => simp [intOf]; omega
                        · have q1 : ¬ (q : Int) < (M : Int) := by omega
                          go_wp2_with fail
                          go_roundw
                          case rel => exact ⟨v + 1, a6, c6, s6, _, [], by omega, by go_num, F6.out, FL.out, D6.out, C6.out⟩
                          case measure => simp [intOf]; omega
                    · have v1 : ¬ (v : Int) < 2 := by omega
                      go_wp2_with (first
                        | (go_at_call 20; refine Calls.mono (Bytes_of D4.out (n := U + (T + 12)) LE3.out) ?_; rintro e w7 ⟨rfl, ho7, hc7⟩; have C7 := Lib.hid (C5.out.trans hc7); obtain ⟨g7, _, hr7⟩ := Rd.of_Own ho7; have R7 := Lib.hid hr7; clear ho7 hc7 hr7)
                        | (go_at_call 23; refine Calls.mono (SameBytes_any R7.out (Rd.nil _ 0)) ?_; rintro e w8 ⟨rfl, q8, rfl⟩; rw [show decide (flat acc ++ frameB t = []) = false from decide_eq_false (fun h => by have := LE3.out; rw [h] at this; simp at this)])
                        | (go_at_call 31; refine Calls.mono (lives20_any _) ?_; rintro e w9 ⟨rfl, hc9⟩; have C9 := Lib.hid ((C7.out.drewN q8).trans hc9); clear hc9))
                      go_ret
                      exact ⟨rfl, C9.out.belowN⟩
                · have hKe : ((K : Int) == (T : Int) + 12) = false := by simp; omega
                  have hMj : (M : Int) = (j : Int) := by rw [← HM.out, RSE.out, if_neg hKT, ACL.out]
                  have HRQ : Hid (∀ q, q < M → (q < j → rs[q]? = some (f q)) ∧ (¬ q < j → rs[q]? = some t)) := Lib.hid (fun q hq => by
                    rw [RSE.out, if_neg hKT]
                    refine ⟨fun h => ?_, fun h => by omega⟩
                    rw [← HA.out]; simp [upto, h])
                  go_wp2_with fail
                  go_loopw [17] (fun i wr => ∃ (v : Nat) (ac : Option Addr) (cc sc : Nat) (bs' rest : List UInt8), v ≤ 2 ∧ i = .int .i64 (v : Int) ∧ DiskAt wr w3.heap.size pc ac cc 100000 sc bs' ∧ Framed bs' rs rest ∧ DiskAt wr w.heap.size p a3 c3 100000 U (flat acc ++ frameB t) ∧ Chg Non w wr) (fun i _ => 2 - (intOf i).toNat)
                  case atStart =>
                    obtain ⟨rest, hfr⟩ := FR.out
                    exact ⟨0, _, _, _, _, rest, by omega, rfl, DF.out, hfr, D4.out, C5.out⟩
                  case round =>
                    clear DF D4 C5 FR
                    obtain ⟨v, ac, cc, sc, bs', rest, hv, rfl, hdc, hfr, hd, hc⟩ := hrel
                    have DF := Lib.hid hdc; have FR := Lib.hid hfr; have D4 := Lib.hid hd; have C5 := Lib.hid hc
                    clear hdc hfr hd hc
                    by_cases hv2 : v < 2
                    · have v1 : (v : Int) < 2 := by omega
                      go_wp2_with fail
                      refine Calls.mono (Open_any DF.out FR.out (by have := DF.out.le; omega)) ?_
                      rw [HM.out]
                      rintro e w6 ⟨oa, vs, a6, c6, s6, rfl, hz, hr, hsp, hd6, _, _⟩
                      have D6 := Lib.hid (D4.out.far DF.out PB.out AB.out hd6)
                      have C6 := Lib.hid (DF.out.next (by have := C4.out.size; exact this) C5.out hd6.chg)
                      have F6 := Lib.hid hd6.at_; have ZZ := Lib.hid hz; have RR := Lib.hid hr
                      have FL : Hid (Framed (flat rs) rs []) := Lib.hid (framed_flat FR.out.le)
                      clear hz hr hsp hd6
                      go_wp2_with fail
                      go_loopw [20] (fun i ws => ∃ q : Nat, q ≤ M ∧ i = .int .i64 (q : Int) ∧ w6 = ws) (fun i _ => M - (intOf i).toNat)
                      case atStart => exact ⟨0, by omega, rfl, rfl⟩
                      case round =>
                        obtain ⟨q, hq, rfl, rfl⟩ := hrel
                        by_cases hql : q < M
                        · obtain ⟨g1, rfl, _, hc1⟩ := ZZ.out.at_ (by omega)
                          have q0 : (0 : Int) ≤ (q : Int) := by omega
                          have q1 : (q : Int) < (M : Int) := by omega
                          by_cases hqj : q < j
                          · have hget := (HRQ.out q hql).1 hqj
                            obtain ⟨aq, cq, hv, hs⟩ := RR.out.str hget
                            have d1 := (hc1 q hql).trans hv
                            obtain ⟨b, off, rfl, hbl, hcell⟩ := (HL.out.chg C6.out).2.2.2 (by omega)
                            have e1 := hcell q hqj
                            obtain ⟨y, hy⟩ : ∃ y, f q = y := ⟨_, rfl⟩
                            rw [hy] at d1 e1 hs
                            simp only [tv] at e1
                            clear hc1 hget hv hcell hy
                            have q2 : (q : Int) < (j : Int) := by omega
                            go_wp2_with fail
                            go_roundw
                            case rel => exact ⟨q + 1, by omega, by go_num, by first | rfl | trivial⟩
                            case measure => simp [intOf]; omega
                          · exfalso; omega
                        · have q1 : ¬ (q : Int) < (M : Int) := by omega
                          go_wp2_with fail
                          go_roundw
                          case rel => exact ⟨v + 1, a6, c6, s6, _, [], by omega, by go_num, F6.out, FL.out, D6.out, C6.out⟩
                          case measure => simp [intOf]; omega
                    · have v1 : ¬ (v : Int) < 2 := by omega
                      go_wp2_with (first
                        | (go_at_call 20; refine Calls.mono (Bytes_of D4.out (n := U + (T + 12)) LE3.out) ?_; rintro e w7 ⟨rfl, ho7, hc7⟩; have C7 := Lib.hid (C5.out.trans hc7); obtain ⟨g7, _, hr7⟩ := Rd.of_Own ho7; have R7 := Lib.hid hr7; clear ho7 hc7 hr7)
                        | (go_at_call 23; refine Calls.mono (SameBytes_any R7.out (Rd.nil _ 0)) ?_; rintro e w8 ⟨rfl, q8, rfl⟩; rw [show decide (flat acc ++ frameB t = []) = false from decide_eq_false (fun h => by have := LE3.out; rw [h] at this; simp at this)])
                        | (go_at_call 31; refine Calls.mono (lives20_any _) ?_; rintro e w9 ⟨rfl, hc9⟩; have C9 := Lib.hid ((C7.out.drewN q8).trans hc9); clear hc9))
                      go_ret
                      exact ⟨rfl, C9.out.belowN⟩
              · omega
  · have k3 : (200 : Int) < (n : Int) := by omega
    go_enter Try.func11, Try.ntmps11
    go_wp2_with fail
    go_loopw [7, 8] (fun t i wr => ∃ (k : Nat) (z : Int), k ≤ n ∧ t = .int .i64 z ∧ i = .int .i64 (k : Int) ∧ w = wr) (fun _ i _ => n - (intOf i).toNat)
    case atStart => exact ⟨0, _, by omega, rfl, rfl, rfl⟩
    case round =>
      obtain ⟨k, z, hk, rfl, rfl, rfl⟩ := hrel
      by_cases hlt : k < n
      · obtain ⟨b, off, rfl, hbl, hcell⟩ := HL.out.2.2.2 (by omega)
        have e1 := hcell k hlt
        clear hcell
        obtain ⟨r, hr⟩ : ∃ r, f k = r := ⟨_, rfl⟩
        rw [hr] at e1
        clear hr
        simp only [tv] at e1
        have k0 : (0 : Int) ≤ (k : Int) := by omega
        have k1 : (k : Int) < (n : Int) := by omega
        go_wp2_with fail
        go_roundw
        case rel => exact ⟨k + 1, _, by omega, rfl, by go_num, by first | rfl | trivial⟩
        case measure => simp [intOf]; omega
      · have k1 : ¬ (k : Int) < (n : Int) := by omega
        go_wp2_with fail
        all_goals
          refine Calls.mono (lives20_any _) ?_
          rintro e w1 ⟨rfl, hc1⟩
          go_wp2_with fail
          go_ret
          exact ⟨rfl, hc1.belowN⟩
end Go.Proofs.Ytbmopcmhokpchaa
