/- The iterator over frames: walked. -/
import Derived.Test.YtbmopcmhokpchaaGreatDoorLogFrame
import Derived.Test.YtbmopcmhokpchaaGreatDoorLogGrown
import Derived.Test.YtbmopcmhokpchaaGreatDoorLogBits
import Derived.RangeFuncFrom
namespace Go.Proofs.YtbmopcmhokpchaaGreatDoor
open Go.RowKit Go.Shelf
set_option linter.unusedVariables false
set_option linter.unusedSimpArgs false
attribute [local go_sem ↓] Go.wp_at_zero Go.wp_at_succ
attribute [local go_sem] Oper.semAt_some
def Rec (rs : List (List UInt8)) := { i : Nat // i < rs.length }
def recEnc (g nb : Nat) (rs : List (List UInt8)) (x : Rec rs) : Array Value := #[.slice (some ⟨g, startB rs x.1 + 4, none⟩) (rs.getD x.1 []).length (nb - (startB rs x.1 + 4)), .int .i64 ((startB rs (x.1 + 1) : Nat) : Int)]
def KpB (g bx : Nat) (W W' : World) : Prop := W'.heap[g]? = W.heap[g]? ∧ W'.heap[bx]? = W.heap[bx]?
theorem frames_any (w : World) (ao : Option Addr) (n cap : Nat) : Calls Tryz.prog 74 #[.slice ao n cap] w fun e w' => e = .returned (.func (.func 105) #[] #[.pointer (some ⟨w.heap.size, 0, none⟩)]) ∧ w' = w.alloc (.cells #[.slice ao n cap] 22) := by
  go_enter Tryz.func74, Tryz.ntmps74
  go_wp2
  go_ret
  exact ⟨rfl, rfl⟩
attribute [local go_sem ↓] run_load_row_op run_store_row_op in
set_option maxRecDepth 40000 in
set_option maxHeartbeats 8000000 in
theorem frames1_stops {bs rest : List UInt8} {rs : List (List UInt8)} (hF : Framed bs rs rest) (n : Nat) {g bx nb : Nat} {w : World} (hb : w.heap[bx]? = some (.cells #[.slice (some ⟨g, 0, none⟩) nb nb] 22 (0, 0))) (hr : Rd w g (some ⟨g, 0, none⟩) nb nb bs) (hg : g < w.heap.size) (hn : nb ≤ 100000000) :
    SeqStopsK Fence.wide n Tryz.prog 105 #[.pointer (some ⟨bx, 0, none⟩)] (recEnc g nb rs) (KpB g bx) (fun xs => xs.map (·.1) = List.range rs.length) (fun _ => True) rs.length w := by
  intro l J Jx W hW hJ hJx hY h0
  refine callsIn_wide.2 ?_
  have hbl : bx < w.heap.size := (Array.getElem?_eq_some_iff.1 hb).1
  have HB := Lib.hid (((Chg.of_below hW).block bx hbl (fun h => h)).trans hb)
  have HR := Lib.hid (hr.same (w' := W) (fun _ => (Chg.of_below hW).block g hg (fun h => h)))
  have FR := Lib.hid hF
  have NB := Lib.hid hr.1
  have HY := Lib.hid hY; have HJ := Lib.hid hJ; have HJX := Lib.hid hJx; have H0 := Lib.hid h0
  have GB := Lib.hid (show g < W.heap.size ∧ bx < W.heap.size from ⟨Nat.lt_of_lt_of_le hg hW.size, Nat.lt_of_lt_of_le hbl hW.size⟩)
  clear hb hr hW hF hY hJ hJx h0 hg hbl
  simp only [List.size_toArray, List.append_toArray, List.cons_append, List.nil_append]
  go_enter Tryz.func105, Tryz.ntmps105
  go_wp2_with fail
  go_loopw [3] (fun at_ wr => ∃ (i : Nat) (pre : List (Rec rs)), i ≤ rs.length ∧ pre.map (·.1) = List.range i ∧ at_ = .int .i64 ((startB rs i : Nat) : Int) ∧ J pre wr ∧ KpB g bx W wr) (fun at_ _ => nb + 1 - (intOf at_).toNat)
  case atStart => exact ⟨0, [], by omega, rfl, by rw [startB_zero]; rfl, H0.out, ⟨rfl, rfl⟩⟩
  case round =>
    obtain ⟨i, pre, hi, hpre, rfl, hj, hk⟩ := hrel
    have HJ1 := Lib.hid hj; have HK := Lib.hid hk; have PRE := Lib.hid hpre; have IL := Lib.hid hi
    have hbx : wr.cell? ⟨bx, 0, none⟩ = some (.slice (some ⟨g, 0, none⟩) nb nb) := by rw [cell_of_row wr bx 0 _ _ _ (hk.2.trans HB.out)]; rfl
    have RD := Lib.hid (HR.out.same (fun _ => hk.1))
    have hsl := startB_le FR.out hi
    rw [NB.out] at hsl
    have hfr := framed_fr1 FR.out hi
    have NX := Lib.hid (fun r (h : rs[i]? = some r) => startB_succ h)
    clear hj hk hpre hi
    obtain ⟨s, hs⟩ : ∃ s, startB rs i = s := ⟨_, rfl⟩
    rw [hs] at hsl hfr NX ⊢
    have HS := Lib.hid hs; have FR1 := Lib.hid hfr
    clear hs hfr
    by_cases c1 : s + 12 ≤ nb
    · have k1 : (12 : Int) ≤ (nb : Int) - (s : Int) := by omega
      have hc := RD.out.2.2.2.2 (by omega)
      obtain ⟨off, ho, hcell⟩ := hc
      obtain rfl : off = 0 := by simpa using ho.symm
      have d0 := hcell s (by omega); have d1 := hcell (s + 1) (by omega); have d2 := hcell (s + 2) (by omega); have d3 := hcell (s + 3) (by omega)
      simp only [Nat.zero_add, bv] at d0 d1 d2 d3
      clear hcell ho
      obtain ⟨x0, hx0⟩ : ∃ x, bs.getD s 0 = x := ⟨_, rfl⟩
      obtain ⟨x1, hx1⟩ : ∃ x, bs.getD (s + 1) 0 = x := ⟨_, rfl⟩
      obtain ⟨x2, hx2⟩ : ∃ x, bs.getD (s + 2) 0 = x := ⟨_, rfl⟩
      obtain ⟨x3, hx3⟩ : ∃ x, bs.getD (s + 3) 0 = x := ⟨_, rfl⟩
      rw [hx0] at d0; rw [hx1] at d1; rw [hx2] at d2; rw [hx3] at d3
      have hn4 : num4 (bs.drop s) = x0.toNat * 16777216 + x1.toNat * 65536 + x2.toNat * 256 + x3.toNat := by
        simp only [num4, List.getD, List.getElem?_drop, Nat.add_zero] at hx0 hx1 hx2 hx3 ⊢
        rw [hx0, hx1, hx2, hx3]
      clear hx0 hx1 hx2 hx3
      have l0 := x0.toNat_lt; have l1 := x1.toNat_lt; have l2 := x2.toNat_lt; have l3 := x3.toNat_lt
      have s0 : (0 : Int) ≤ (s : Int) := by omega
      have s1 : (s : Int) + 3 < (nb : Int) := by omega
      obtain ⟨N, hN⟩ : ∃ N, num4 (bs.drop s) = N := ⟨_, rfl⟩
      have hor : bits .or .i64 (bits .or .i64 (bits .or .i64 ((x0.toNat : Int) * 16777216) ((x1.toNat : Int) * 65536)) ((x2.toNat : Int) * 256)) (x3.toNat : Int) = (N : Int) := by
        rw [or_four l0 l1 l2 l3, ← hN, hn4]
      have NN := Lib.hid hN
      clear hN hn4
      go_wp2_with fail
      go_quiet (fail)
      try rw [hor]
      clear hor d0 d1 d2 d3 l0 l1 l2 l3 s0 s1 k1
      by_cases c2 : N ≤ 16777216
      · have k2 : ¬ 16777216 < (N : Int) := by omega
        by_cases c3 : s + 4 + N + 8 ≤ nb
        · have k3 : ¬ (nb : Int) < (s : Int) + 4 + (N : Int) + 8 := by omega
          go_wp2_with fail
          rw [show s + 4 + N - s = 4 + N by omega]
          have hcut := Rd.cut RD.out (i := s) (L := 4 + N) (by omega) (by omega)
          rw [Nat.zero_add] at hcut
          refine Calls.mono (Of_any (hcut.drewN _) (by omega)) ?_
          rintro e w3 ⟨rfl, hc3⟩
          obtain ⟨S, hS⟩ : ∃ S, sha ((bs.drop s).take (4 + N)) = S := ⟨_, rfl⟩
          have SL : S.length = 32 := by rw [← hS, sha_length]
          rw [hS]
          have HS2 := Lib.hid hS
          clear hS hcut
          obtain ⟨W4, p4, q4, e4, c4, z4⟩ := new32 w3 SL
          rw [zero32_lit] at p4 q4
          have C4 : Hid (Chg Non wr W4) := Lib.hid (((Chg.refl _ wr).drewN nq).trans (hc3.trans c4))
          have R4 := Lib.hid (Rd.head (n := 8) (c := 32) e4 (by omega) (by omega) (by unfold maxLen; omega))
          have SLN := Lib.hid SL
          have hbx4 : W4.cell? ⟨bx, 0, none⟩ = some (.slice (some ⟨g, 0, none⟩) nb nb) := (C4.out.cell (p := ⟨bx, 0, none⟩) (Array.getElem?_eq_some_iff.1 (HK.out.2.trans HB.out)).1 (fun h => h)).trans hbx
          have RD4 := Lib.hid (RD.out.chg C4.out (fun h => h))
          clear hc3 e4 c4 z4 hbx SL
          obtain ⟨rt, hrt⟩ : ∃ rt, (bs.drop (s + 4 + N)).take 8 = rt := ⟨_, rfl⟩
          have hcut2 := Rd.cut RD4.out (i := s + 4 + N) (L := 8) (by omega) (by omega)
          rw [Nat.zero_add, hrt] at hcut2
          have HRT := Lib.hid hrt
          clear hrt
          have RT := Lib.hid hcut2
          clear hcut2
          have s0 : (0 : Int) ≤ (s : Int) := by omega
          have s1 : (0 : Int) ≤ (s : Int) + 4 + (N : Int) := by omega
          have t1 : ((s : Int) + 4 + (N : Int)).toNat = s + 4 + N := by omega
          have t2 : ((s : Int) + 4 + (N : Int) + 8).toNat = s + 4 + N + 8 := by omega
          have t3 : ((s : Int) + 4).toNat = s + 4 := by omega
          have q1 : IntKind.i64.wrap ((s : Int) + 4 + (N : Int)) = (s : Int) + 4 + (N : Int) := IntWalk.i64_in _ ⟨by omega, by omega⟩
          have q2 : IntKind.i64.wrap ((s : Int) + 4) = (s : Int) + 4 := IntWalk.i64_in _ ⟨by omega, by omega⟩
          have s2 : (s : Int) + 4 + (N : Int) ≤ (s : Int) + 4 + (N : Int) + 8 := by omega
          have s3 : (s : Int) + 4 ≤ (s : Int) + 4 + (N : Int) := by omega
          have s4 : (0 : Int) ≤ (s : Int) + 4 := by omega
          have s5 : (s : Int) + 4 + (N : Int) ≤ (nb : Int) := by omega
          have n1 : ¬ nb = s + 4 + N := by omega
          have n2 : ¬ nb = s + 4 := by omega
          by_cases hsm : S.take 8 = rt
          · have hd : decide (S.take 8 = rt) = true := decide_eq_true hsm
            have hrec : rs[i]? = some (((bs.drop s).drop 4).take N) := by
              rw [← FR1.out]; unfold fr1
              rw [NN.out, if_pos ⟨by rw [List.length_drop, NB.out]; omega, c2, by rw [List.length_drop, NB.out]; omega, by rw [HS2.out, List.drop_drop, show s + (4 + N) = s + 4 + N by omega, HRT.out, hsm]⟩]
            have hil : i < rs.length := (List.getElem?_eq_some_iff.1 hrec).1
            have hrn : (((bs.drop s).drop 4).take N).length = N := by rw [List.length_take, List.length_drop, List.length_drop, NB.out]; omega
            have hrl : (rs.getD i []).length = N := by rw [List.getD, hrec, Option.getD_some, hrn]
            have hst : startB rs (i + 1) = s + (N + 12) := by rw [NX.out _ hrec, hrn]
            have HENC : Hid (recEnc g nb rs ⟨i, hil⟩ = #[.slice (some ⟨g, s + 4, none⟩) N (nb - (s + 4)), .int .i64 ((s : Int) + 4 + (N : Int) + 8)]) := Lib.hid (by
              unfold recEnc
              simp only [HS.out, hrl, hst]
              rw [show ((s + (N + 12) : Nat) : Int) = (s : Int) + 4 + (N : Int) + 8 by omega])
            have HST := Lib.hid hst
            have J7 : Hid (∀ q, J pre (W4.drewN q)) := Lib.hid (fun q => HJ.out pre wr _ none HJ1.out ((C4.out.trans ((Chg.refl _ _).drewN _)).grownBy) (fun r e => by cases e))
            have L7 : Hid (pre.length < rs.length) := Lib.hid (by have := congrArg List.length PRE.out; simp at this; omega)
            have K7 : Hid (KpB g bx W W4) := Lib.hid ⟨(C4.out.block g (RD.out.lt (by omega)) (fun h => h)).trans HK.out.1, (C4.out.block bx (Array.getElem?_eq_some_iff.1 (HK.out.2.trans HB.out)).1 (fun h => h)).trans HK.out.2⟩
            clear hrec hrn hrl hst hsm
            go_wp2_with fail
            --@yes begin
            refine (wpIn_wide (n := n)).1 ?_
            refine wpIn_region_any (by kernel_rfl) ?_
            change wpAnyIn _ _ _ _ _ _ _ _ _ (World.drew _)
            refine wpAnyIn_take (i := 0) (v := ?_) rfl (by simp only [List.getElem?_toArray, List.getElem?_cons_succ, List.getElem?_cons_zero]; rfl) (by kernel_rfl) (by kernel_rfl) (by kernel_rfl) (by intro _ _ _ h; exact h) ⟨Or.inl ⟨by rfl, ?_⟩, fun _ => rfl⟩ ?_
            rotate_left
            · intro w; go_simp; try with_reducible rfl
            try simp only [Act.put, List.setIfInBounds_toArray, List.set_cons_zero, List.set_cons_succ]
            refine wpAnyIn_take (i := 2) (v := ?_) rfl (by simp only [List.getElem?_toArray, List.getElem?_cons_succ, List.getElem?_cons_zero]; rfl) (by kernel_rfl) (by kernel_rfl) (by kernel_rfl) (by intro _ _ _ h; exact h) ⟨Or.inl ⟨by rfl, ?_⟩, fun _ => rfl⟩ ?_
            rotate_left
            · intro w; go_simp; try with_reducible rfl
            try simp only [Act.put, List.setIfInBounds_toArray, List.set_cons_zero, List.set_cons_succ]
            refine wpAnyIn_take (i := 3) (v := ?_) rfl (by simp only [List.getElem?_toArray, List.getElem?_cons_succ, List.getElem?_cons_zero]; rfl) (by kernel_rfl) (by kernel_rfl) (by kernel_rfl) (by intro _ _ _ h; exact h) ⟨Or.inl ⟨by rfl, ?_⟩, fun _ => rfl⟩ ?_
            rotate_left
            · intro w; go_simp; try with_reducible rfl
            try simp only [Act.put, List.setIfInBounds_toArray, List.set_cons_zero, List.set_cons_succ]
            refine wpAnyIn_take (i := 4) (v := ?_) rfl (by simp only [List.getElem?_toArray, List.getElem?_cons_succ, List.getElem?_cons_zero]; rfl) (by kernel_rfl) (by kernel_rfl) (by kernel_rfl) (by intro _ _ _ h; exact h) ⟨Or.inl ⟨by rfl, ?_⟩, fun _ => rfl⟩ ?_
            rotate_left
            · intro w; go_simp; try with_reducible rfl
            try simp only [Act.put, List.setIfInBounds_toArray, List.set_cons_zero, List.set_cons_succ]
            refine wpAnyIn_ready (rs := [1]) (by kernel_rfl) (by simp) ?_
            refine AllReadyIn.cons (by simp only [List.getElem?_toArray, List.getElem?_cons_succ, List.getElem?_cons_zero]; rfl) (fun K hK => ?_) AllReadyIn.nil
            go_simp
            try (refine hK _ _ ?_; clear hK K)
            try simp only [Act.put, List.setIfInBounds_toArray, List.set_cons_zero, List.set_cons_succ]
            refine wpAnyIn_take (i := 5) (v := ?_) rfl (by simp only [List.getElem?_toArray, List.getElem?_cons_succ, List.getElem?_cons_zero]; rfl) (by kernel_rfl) (by kernel_rfl) (by kernel_rfl) (by intro _ _ _ h; exact h) ⟨Or.inl ⟨by rfl, ?_⟩, fun _ => rfl⟩ ?_
            rotate_left
            · intro w; go_simp; try with_reducible rfl
            try simp only [Act.put, List.setIfInBounds_toArray, List.set_cons_zero, List.set_cons_succ]
            refine wpAnyIn_ready (rs := [6]) (by kernel_rfl) (by simp) ?_
            refine AllReadyIn.cons (by simp only [List.getElem?_toArray, List.getElem?_cons_succ, List.getElem?_cons_zero]; rfl) (fun K hK => ?_) AllReadyIn.nil
            go_simp
            refine ⟨trivial, (fun h => by cases h), ?_⟩
            refine (callsIn_wide.2 (Equal_any (show Rd W4.drew _ _ _ _ _ from R4.out) (show Rd W4.drew _ _ _ _ _ from RT.out))).mono ?_
            rintro e w5 ⟨rfl, qe, rfl⟩
            rw [hd]
            gi_wp2_with fail
            try (refine hK _ _ ?_; clear hK K)
            try simp only [Act.put, List.setIfInBounds_toArray, List.set_cons_zero, List.set_cons_succ]
            refine wpAnyIn_take (i := 7) (v := ?_) rfl (by simp only [List.getElem?_toArray, List.getElem?_cons_succ, List.getElem?_cons_zero]; rfl) (by kernel_rfl) (by kernel_rfl) (by kernel_rfl) (by intro _ _ _ h; exact h) ⟨Or.inl ⟨by rfl, ?_⟩, fun _ => rfl⟩ ?_
            rotate_left
            · intro w; go_simp; try with_reducible rfl
            try simp only [Act.put, List.setIfInBounds_toArray, List.set_cons_zero, List.set_cons_succ]
            refine wpAnyIn_take (i := 8) (v := ?_) rfl (by simp only [List.getElem?_toArray, List.getElem?_cons_succ, List.getElem?_cons_zero]; rfl) (by kernel_rfl) (by kernel_rfl) (by kernel_rfl) (by intro _ _ _ h; exact h) ⟨Or.inl ⟨by rfl, ?_⟩, fun _ => rfl⟩ ?_
            rotate_left
            · intro w; go_simp; try with_reducible rfl
            try simp only [Act.put, List.setIfInBounds_toArray, List.set_cons_zero, List.set_cons_succ]
            refine wpAnyIn_take (i := 9) (v := ?_) rfl (by simp only [List.getElem?_toArray, List.getElem?_cons_succ, List.getElem?_cons_zero]; rfl) (by kernel_rfl) (by kernel_rfl) (by kernel_rfl) (by intro _ _ _ h; exact h) ⟨Or.inl ⟨by rfl, ?_⟩, fun _ => rfl⟩ ?_
            rotate_left
            · intro w; go_simp; try with_reducible rfl
            try simp only [Act.put, List.setIfInBounds_toArray, List.set_cons_zero, List.set_cons_succ]
            refine wpAnyIn_take (i := 11) (v := ?_) rfl (by simp only [List.getElem?_toArray, List.getElem?_cons_succ, List.getElem?_cons_zero]; rfl) (by kernel_rfl) (by kernel_rfl) (by kernel_rfl) (by intro _ _ _ h; exact h) ⟨Or.inl ⟨by rfl, ?_⟩, fun _ => rfl⟩ ?_
            rotate_left
            · intro w; go_simp; try with_reducible rfl
            try simp only [Act.put, List.setIfInBounds_toArray, List.set_cons_zero, List.set_cons_succ]
            refine wpAnyIn_take (i := 12) (v := ?_) rfl (by simp only [List.getElem?_toArray, List.getElem?_cons_succ, List.getElem?_cons_zero]; rfl) (by kernel_rfl) (by kernel_rfl) (by kernel_rfl) (by intro _ _ _ h; exact h) ⟨Or.inl ⟨by rfl, ?_⟩, fun _ => rfl⟩ ?_
            rotate_left
            · intro w; go_simp; try with_reducible rfl
            try simp only [Act.put, List.setIfInBounds_toArray, List.set_cons_zero, List.set_cons_succ]
            refine wpAnyIn_take (i := 13) (v := ?_) rfl (by simp only [List.getElem?_toArray, List.getElem?_cons_succ, List.getElem?_cons_zero]; rfl) (by kernel_rfl) (by kernel_rfl) (by kernel_rfl) (by intro _ _ _ h; exact h) ⟨Or.inl ⟨by rfl, ?_⟩, fun _ => rfl⟩ ?_
            rotate_left
            · intro w; go_simp; try with_reducible rfl
            try simp only [Act.put, List.setIfInBounds_toArray, List.set_cons_zero, List.set_cons_succ]
            refine wpAnyIn_take (i := 14) (v := ?_) rfl (by simp only [List.getElem?_toArray, List.getElem?_cons_succ, List.getElem?_cons_zero]; rfl) (by kernel_rfl) (by kernel_rfl) (by kernel_rfl) (by intro _ _ _ h; exact h) ⟨Or.inl ⟨by rfl, ?_⟩, fun _ => rfl⟩ ?_
            rotate_left
            · intro w; go_simp; try with_reducible rfl
            try simp only [Act.put, List.setIfInBounds_toArray, List.set_cons_zero, List.set_cons_succ]
            refine wpAnyIn_take (i := 16) (v := ?_) rfl (by simp only [List.getElem?_toArray, List.getElem?_cons_succ, List.getElem?_cons_zero]; rfl) (by kernel_rfl) (by kernel_rfl) (by kernel_rfl) (by intro _ _ _ h; exact h) ⟨Or.inl ⟨by rfl, ?_⟩, fun _ => rfl⟩ ?_
            rotate_left
            · intro w; go_simp; try with_reducible rfl
            try simp only [Act.put, List.setIfInBounds_toArray, List.set_cons_zero, List.set_cons_succ]
            refine wpAnyIn_ready (rs := [10]) (by kernel_rfl) (by simp) ?_
            refine AllReadyIn.cons (by simp only [List.getElem?_toArray, List.getElem?_cons_succ, List.getElem?_cons_zero]; rfl) (fun K hK => ?_) AllReadyIn.nil
            go_simp
            try (refine hK _ _ ?_; clear hK K)
            try simp only [Act.put, List.setIfInBounds_toArray, List.set_cons_zero, List.set_cons_succ]
            refine wpAnyIn_take (i := 15) (v := ?_) rfl (by simp only [List.getElem?_toArray, List.getElem?_cons_succ, List.getElem?_cons_zero]; rfl) (by kernel_rfl) (by kernel_rfl) (by kernel_rfl) (by intro _ _ _ h; exact h) ⟨Or.inl ⟨by rfl, ?_⟩, fun _ => rfl⟩ ?_
            rotate_left
            · intro w; go_simp; try with_reducible rfl
            try simp only [Act.put, List.setIfInBounds_toArray, List.set_cons_zero, List.set_cons_succ]
            refine wpAnyIn_ready (rs := [17]) (by kernel_rfl) (by simp) ?_
            refine AllReadyIn.cons (by simp only [List.getElem?_toArray, List.getElem?_cons_succ, List.getElem?_cons_zero]; rfl) (fun K hK => ?_) AllReadyIn.nil
            go_simp
            obtain ⟨fn, tm, asg, bd, hy, hRY⟩ := HY.out pre ⟨i, hil⟩ (W4.drewN (1 + qe)) (J7.out _) L7.out
            rw [HENC.out] at hy
            rw [hy, Oper.uponIn_round]
            refine ⟨(fun h => by cases h), ?_⟩
            refine hRY.mono ?_
            clear hy hRY
            rintro e W6 (⟨rfl, hJ6, hk6⟩ | ⟨rfl, hx6⟩)
            · refine hK _ _ ?_
              clear hK K
              try simp only [Act.put, List.setIfInBounds_toArray, List.set_cons_zero, List.set_cons_succ]
              refine wpAnyIn_take (i := 18) (v := ?_) rfl (by simp only [List.getElem?_toArray, List.getElem?_cons_succ, List.getElem?_cons_zero]; rfl) (by kernel_rfl) (by kernel_rfl) (by kernel_rfl) (by intro _ _ _ h; exact h) ⟨Or.inl ⟨by rfl, ?_⟩, fun _ => rfl⟩ ?_
              rotate_left
              · intro w; go_simp; try with_reducible rfl
              try simp only [Act.put, List.setIfInBounds_toArray, List.set_cons_zero, List.set_cons_succ]
              refine wpAnyIn_take (i := 19) (v := ?_) rfl (by simp only [List.getElem?_toArray, List.getElem?_cons_succ, List.getElem?_cons_zero]; rfl) (by kernel_rfl) (by kernel_rfl) (by kernel_rfl) (by intro _ _ _ h; exact h) ⟨Or.inl ⟨by rfl, ?_⟩, fun _ => rfl⟩ ?_
              rotate_left
              · intro w; go_simp; try with_reducible rfl
              try simp only [Act.put, List.setIfInBounds_toArray, List.set_cons_zero, List.set_cons_succ]
              refine wpAnyIn_done (by kernel_rfl) ?_ _
              have J8 := Lib.hid hJ6; have K8 := Lib.hid hk6
              clear hJ6 hk6
              go_wp2_with fail
              go_roundw
              case rel => exact ⟨i + 1, pre ++ [⟨i, hil⟩], hil, by rw [List.map_append, PRE.out, List.range_succ]; rfl, by rw [HST.out]; go_num, J8.out, ⟨K8.out.1.trans K7.out.1, K8.out.2.trans K7.out.2⟩⟩
              case measure => simp [intOf]; omega
            · refine hK _ _ ?_
              clear hK K
              try simp only [Act.put, List.setIfInBounds_toArray, List.set_cons_zero, List.set_cons_succ]
              refine wpAnyIn_take (i := 18) (v := ?_) rfl (by simp only [List.getElem?_toArray, List.getElem?_cons_succ, List.getElem?_cons_zero]; rfl) (by kernel_rfl) (by kernel_rfl) (by kernel_rfl) (by intro _ _ _ h; exact h) ⟨Or.inl ⟨by rfl, ?_⟩, fun _ => rfl⟩ ?_
              rotate_left
              · intro w; go_simp; try with_reducible rfl
              try simp only [Act.put, List.setIfInBounds_toArray, List.set_cons_zero, List.set_cons_succ]
              refine wpAnyIn_take (i := 19) (v := ?_) rfl (by simp only [List.getElem?_toArray, List.getElem?_cons_succ, List.getElem?_cons_zero]; rfl) (by kernel_rfl) (by kernel_rfl) (by kernel_rfl) (by intro _ _ _ h; exact h) ⟨Or.inl ⟨by rfl, ?_⟩, fun _ => rfl⟩ ?_
              rotate_left
              · intro w; go_simp; try with_reducible rfl
              try simp only [Act.put, List.setIfInBounds_toArray, List.set_cons_zero, List.set_cons_succ]
              refine wpAnyIn_done (by kernel_rfl) ?_ _
              have J8 := Lib.hid hx6
              clear hx6
              go_wp2_with fail
              refine bodyPost_ret (results_none rfl _ _ _) rfl ?_
              exact ⟨⟨_, rfl⟩, .inr ⟨_, trivial, J8.out⟩⟩
            --@yes end
          · have hd : decide (S.take 8 = rt) = false := decide_eq_false hsm
            go_wp2_with fail
            have hnone : rs[i]? = none := by
              rw [← FR1.out]; unfold fr1
              rw [NN.out, if_neg]
              rintro ⟨_, _, _, h4⟩
              rw [HS2.out, List.drop_drop, show s + (4 + N) = s + 4 + N by omega, HRT.out] at h4
              exact hsm h4
            have hlen : i = rs.length := by have := List.getElem?_eq_none_iff.1 hnone; have := IL.out; omega
            have HLEN := Lib.hid hlen
            clear hnone hlen
            --@no begin
            refine (wpIn_wide (n := n)).1 ?_
            refine wpIn_region_any (by kernel_rfl) ?_
            change wpAnyIn _ _ _ _ _ _ _ _ _ (World.drew _)
            refine wpAnyIn_take (i := 0) (v := ?_) rfl (by simp only [List.getElem?_toArray, List.getElem?_cons_succ, List.getElem?_cons_zero]; rfl) (by kernel_rfl) (by kernel_rfl) (by kernel_rfl) (by intro _ _ _ h; exact h) ⟨Or.inl ⟨by rfl, ?_⟩, fun _ => rfl⟩ ?_
            rotate_left
            · intro w; go_simp; try with_reducible rfl
            try simp only [Act.put, List.setIfInBounds_toArray, List.set_cons_zero, List.set_cons_succ]
            refine wpAnyIn_take (i := 2) (v := ?_) rfl (by simp only [List.getElem?_toArray, List.getElem?_cons_succ, List.getElem?_cons_zero]; rfl) (by kernel_rfl) (by kernel_rfl) (by kernel_rfl) (by intro _ _ _ h; exact h) ⟨Or.inl ⟨by rfl, ?_⟩, fun _ => rfl⟩ ?_
            rotate_left
            · intro w; go_simp; try with_reducible rfl
            try simp only [Act.put, List.setIfInBounds_toArray, List.set_cons_zero, List.set_cons_succ]
            refine wpAnyIn_take (i := 3) (v := ?_) rfl (by simp only [List.getElem?_toArray, List.getElem?_cons_succ, List.getElem?_cons_zero]; rfl) (by kernel_rfl) (by kernel_rfl) (by kernel_rfl) (by intro _ _ _ h; exact h) ⟨Or.inl ⟨by rfl, ?_⟩, fun _ => rfl⟩ ?_
            rotate_left
            · intro w; go_simp; try with_reducible rfl
            try simp only [Act.put, List.setIfInBounds_toArray, List.set_cons_zero, List.set_cons_succ]
            refine wpAnyIn_take (i := 4) (v := ?_) rfl (by simp only [List.getElem?_toArray, List.getElem?_cons_succ, List.getElem?_cons_zero]; rfl) (by kernel_rfl) (by kernel_rfl) (by kernel_rfl) (by intro _ _ _ h; exact h) ⟨Or.inl ⟨by rfl, ?_⟩, fun _ => rfl⟩ ?_
            rotate_left
            · intro w; go_simp; try with_reducible rfl
            try simp only [Act.put, List.setIfInBounds_toArray, List.set_cons_zero, List.set_cons_succ]
            refine wpAnyIn_ready (rs := [1]) (by kernel_rfl) (by simp) ?_
            refine AllReadyIn.cons (by simp only [List.getElem?_toArray, List.getElem?_cons_succ, List.getElem?_cons_zero]; rfl) (fun K hK => ?_) AllReadyIn.nil
            go_simp
            try (refine hK _ _ ?_; clear hK K)
            try simp only [Act.put, List.setIfInBounds_toArray, List.set_cons_zero, List.set_cons_succ]
            refine wpAnyIn_take (i := 5) (v := ?_) rfl (by simp only [List.getElem?_toArray, List.getElem?_cons_succ, List.getElem?_cons_zero]; rfl) (by kernel_rfl) (by kernel_rfl) (by kernel_rfl) (by intro _ _ _ h; exact h) ⟨Or.inl ⟨by rfl, ?_⟩, fun _ => rfl⟩ ?_
            rotate_left
            · intro w; go_simp; try with_reducible rfl
            try simp only [Act.put, List.setIfInBounds_toArray, List.set_cons_zero, List.set_cons_succ]
            refine wpAnyIn_ready (rs := [6]) (by kernel_rfl) (by simp) ?_
            refine AllReadyIn.cons (by simp only [List.getElem?_toArray, List.getElem?_cons_succ, List.getElem?_cons_zero]; rfl) (fun K hK => ?_) AllReadyIn.nil
            go_simp
            refine ⟨trivial, (fun h => by cases h), ?_⟩
            refine (callsIn_wide.2 (Equal_any (show Rd W4.drew _ _ _ _ _ from R4.out) (show Rd W4.drew _ _ _ _ _ from RT.out))).mono ?_
            rintro e w5 ⟨rfl, qe, rfl⟩
            rw [hd]
            gi_wp2_with fail
            try (refine hK _ _ ?_; clear hK K)
            try simp only [Act.put, List.setIfInBounds_toArray, List.set_cons_zero, List.set_cons_succ]
            refine wpAnyIn_take (i := 7) (v := ?_) rfl (by simp only [List.getElem?_toArray, List.getElem?_cons_succ, List.getElem?_cons_zero]; rfl) (by kernel_rfl) (by kernel_rfl) (by kernel_rfl) (by intro _ _ _ h; exact h) ⟨Or.inl ⟨by rfl, ?_⟩, fun _ => rfl⟩ ?_
            rotate_left
            · intro w; go_simp; try with_reducible rfl
            try simp only [Act.put, List.setIfInBounds_toArray, List.set_cons_zero, List.set_cons_succ]
            refine wpAnyIn_take (i := 8) (v := ?_) rfl (by simp only [List.getElem?_toArray, List.getElem?_cons_succ, List.getElem?_cons_zero]; rfl) (by kernel_rfl) (by kernel_rfl) (by kernel_rfl) (by intro _ _ _ h; exact h) ⟨Or.inl ⟨by rfl, ?_⟩, fun _ => rfl⟩ ?_
            rotate_left
            · intro w; go_simp; try with_reducible rfl
            try simp only [Act.put, List.setIfInBounds_toArray, List.set_cons_zero, List.set_cons_succ]
            refine wpAnyIn_take (i := 9) (v := undef) rfl (by simp only [List.getElem?_toArray, List.getElem?_cons_succ, List.getElem?_cons_zero]; rfl) (by kernel_rfl) (by kernel_rfl) (by kernel_rfl) (by intro _ _ _ h; exact h) ⟨Or.inr ⟨by rfl, rfl⟩, fun _ => rfl⟩ ?_
            try simp only [Act.put, List.setIfInBounds_toArray, List.set_cons_zero, List.set_cons_succ]
            refine wpAnyIn_take (i := 10) (v := undef) rfl (by simp only [List.getElem?_toArray, List.getElem?_cons_succ, List.getElem?_cons_zero]; rfl) (by kernel_rfl) (by kernel_rfl) (by kernel_rfl) (by intro _ _ _ h; exact h) ⟨Or.inr ⟨by rfl, rfl⟩, fun _ => rfl⟩ ?_
            try simp only [Act.put, List.setIfInBounds_toArray, List.set_cons_zero, List.set_cons_succ]
            refine wpAnyIn_take (i := 11) (v := undef) rfl (by simp only [List.getElem?_toArray, List.getElem?_cons_succ, List.getElem?_cons_zero]; rfl) (by kernel_rfl) (by kernel_rfl) (by kernel_rfl) (by intro _ _ _ h; exact h) ⟨Or.inr ⟨by rfl, rfl⟩, fun _ => rfl⟩ ?_
            try simp only [Act.put, List.setIfInBounds_toArray, List.set_cons_zero, List.set_cons_succ]
            refine wpAnyIn_take (i := 12) (v := undef) rfl (by simp only [List.getElem?_toArray, List.getElem?_cons_succ, List.getElem?_cons_zero]; rfl) (by kernel_rfl) (by kernel_rfl) (by kernel_rfl) (by intro _ _ _ h; exact h) ⟨Or.inr ⟨by rfl, rfl⟩, fun _ => rfl⟩ ?_
            try simp only [Act.put, List.setIfInBounds_toArray, List.set_cons_zero, List.set_cons_succ]
            refine wpAnyIn_take (i := 13) (v := undef) rfl (by simp only [List.getElem?_toArray, List.getElem?_cons_succ, List.getElem?_cons_zero]; rfl) (by kernel_rfl) (by kernel_rfl) (by kernel_rfl) (by intro _ _ _ h; exact h) ⟨Or.inr ⟨by rfl, rfl⟩, fun _ => rfl⟩ ?_
            try simp only [Act.put, List.setIfInBounds_toArray, List.set_cons_zero, List.set_cons_succ]
            refine wpAnyIn_take (i := 14) (v := undef) rfl (by simp only [List.getElem?_toArray, List.getElem?_cons_succ, List.getElem?_cons_zero]; rfl) (by kernel_rfl) (by kernel_rfl) (by kernel_rfl) (by intro _ _ _ h; exact h) ⟨Or.inr ⟨by rfl, rfl⟩, fun _ => rfl⟩ ?_
            try simp only [Act.put, List.setIfInBounds_toArray, List.set_cons_zero, List.set_cons_succ]
            refine wpAnyIn_take (i := 15) (v := undef) rfl (by simp only [List.getElem?_toArray, List.getElem?_cons_succ, List.getElem?_cons_zero]; rfl) (by kernel_rfl) (by kernel_rfl) (by kernel_rfl) (by intro _ _ _ h; exact h) ⟨Or.inr ⟨by rfl, rfl⟩, fun _ => rfl⟩ ?_
            try simp only [Act.put, List.setIfInBounds_toArray, List.set_cons_zero, List.set_cons_succ]
            refine wpAnyIn_take (i := 16) (v := undef) rfl (by simp only [List.getElem?_toArray, List.getElem?_cons_succ, List.getElem?_cons_zero]; rfl) (by kernel_rfl) (by kernel_rfl) (by kernel_rfl) (by intro _ _ _ h; exact h) ⟨Or.inr ⟨by rfl, rfl⟩, fun _ => rfl⟩ ?_
            try simp only [Act.put, List.setIfInBounds_toArray, List.set_cons_zero, List.set_cons_succ]
            refine wpAnyIn_take (i := 17) (v := undef) rfl (by simp only [List.getElem?_toArray, List.getElem?_cons_succ, List.getElem?_cons_zero]; rfl) (by kernel_rfl) (by kernel_rfl) (by kernel_rfl) (by intro _ _ _ h; exact h) ⟨Or.inr ⟨by rfl, rfl⟩, fun _ => rfl⟩ ?_
            try simp only [Act.put, List.setIfInBounds_toArray, List.set_cons_zero, List.set_cons_succ]
            refine wpAnyIn_take (i := 18) (v := undef) rfl (by simp only [List.getElem?_toArray, List.getElem?_cons_succ, List.getElem?_cons_zero]; rfl) (by kernel_rfl) (by kernel_rfl) (by kernel_rfl) (by intro _ _ _ h; exact h) ⟨Or.inr ⟨by rfl, rfl⟩, fun _ => rfl⟩ ?_
            try simp only [Act.put, List.setIfInBounds_toArray, List.set_cons_zero, List.set_cons_succ]
            refine wpAnyIn_take (i := 19) (v := ?_) rfl (by simp only [List.getElem?_toArray, List.getElem?_cons_succ, List.getElem?_cons_zero]; rfl) (by kernel_rfl) (by kernel_rfl) (by kernel_rfl) (by intro _ _ _ h; exact h) ⟨Or.inl ⟨by rfl, ?_⟩, fun _ => rfl⟩ ?_
            rotate_left
            · intro w; go_simp; try with_reducible rfl
            try simp only [Act.put, List.setIfInBounds_toArray, List.set_cons_zero, List.set_cons_succ]
            refine wpAnyIn_done (by kernel_rfl) ?_ _
            --@no end
            go_wp2_with fail
            refine bodyPost_ret (results_none rfl _ _ _) rfl ?_
            exact ⟨⟨_, rfl⟩, .inl ⟨pre, by rw [PRE.out, HLEN.out], HJ.out pre wr _ none HJ1.out ((C4.out.trans ((Chg.refl _ _).drewN _)).grownBy) (fun r e => by cases e)⟩⟩
        · have k3 : (nb : Int) < (s : Int) + 4 + (N : Int) + 8 := by omega
          have hnone : rs[i]? = none := by rw [← FR1.out]; unfold fr1; rw [NN.out, if_neg (by rw [List.length_drop, NB.out]; omega)]
          have hlen : i = rs.length := by have := List.getElem?_eq_none_iff.1 hnone; have := IL.out; omega
          go_wp2_with fail
          refine bodyPost_ret (results_none rfl _ _ _) rfl ?_
          exact ⟨⟨_, rfl⟩, .inl ⟨pre, by rw [PRE.out, hlen], HJ.out pre _ _ none HJ1.out (((Chg.refl _ _).drewN _).grownBy) (fun r e => by cases e)⟩⟩
      · have k2 : 16777216 < (N : Int) := by omega
        have hnone : rs[i]? = none := by rw [← FR1.out]; unfold fr1; rw [NN.out, if_neg (by omega)]
        have hlen : i = rs.length := by have := List.getElem?_eq_none_iff.1 hnone; have := IL.out; omega
        go_wp2_with fail
        refine bodyPost_ret (results_none rfl _ _ _) rfl ?_
        exact ⟨⟨_, rfl⟩, .inl ⟨pre, by rw [PRE.out, hlen], HJ.out pre _ _ none HJ1.out (((Chg.refl _ _).drewN _).grownBy) (fun r e => by cases e)⟩⟩
    · have k1 : ¬ (12 : Int) ≤ (nb : Int) - (s : Int) := by omega
      have hnone : rs[i]? = none := by rw [← FR1.out]; unfold fr1; rw [if_neg (by rw [List.length_drop, NB.out]; omega)]
      have hlen : i = rs.length := by have := List.getElem?_eq_none_iff.1 hnone; have := IL.out; omega
      go_wp2_with fail
      go_end0
      exact ⟨⟨_, rfl⟩, .inl ⟨pre, by rw [PRE.out, hlen], HJ1.out⟩⟩
end Go.Proofs.YtbmopcmhokpchaaGreatDoor

