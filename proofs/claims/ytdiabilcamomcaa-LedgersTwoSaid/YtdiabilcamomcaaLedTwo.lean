/- Two ledgers of the same tenants have nothing in common. -/
import Derived.Test.YtdiabilcamomcaaLedApart
namespace Go.Proofs.Ytdiabilcamomcaa
open Go.RowKit
set_option linter.unusedVariables false
variable {w w' : World} {p m p2 m2 : Nat} {A A2 : List Nat} {T : List Ten} {L : Nat → Int}
set_option maxRecDepth 20000 in
set_option maxHeartbeats 2000000 in
theorem LedgersTwo_of (hal : Alive) {ao : Option Addr} {len cap : Nat} (h : Tens w ao len cap T) (hok : ∀ i, i < len → TenOk (nth T i)) {x n : Int} (hx : (Lit.int .u8 x).wf = true) (hn : (Lit.int .i64 n).wf = true) :
    Calls Try.prog 8 #[.slice ao len cap, .int .u8 x, .int .i64 n] w fun e w' => e = .returned (.bool true) ∧ Below w.heap.size w w' := by
  have hxb : 0 ≤ x ∧ x ≤ 255 := by
    simp [Lit.wf, IntKind.min, IntKind.max] at hx
    first | omega | (simp [IntKind.signed, IntKind.bits] at hx; omega)
  obtain ⟨xk, rfl⟩ : ∃ xk : Nat, x = (xk : Int) := ⟨x.toNat, by omega⟩
  have hcap := h.2.2.1
  have hlc := h.2.1
  unfold maxLen at hcap
  have HT := Lib.hid h; have HO := Lib.hid hok
  clear h hok hx hn
  have HAL := Lib.hid hal; clear hal
  go_enter Try.func8, Try.ntmps8
  go_wp2_with fail
  refine Calls.mono (HAL.out _) ?_
  rintro e w1 ⟨rfl, hc1⟩
  have C1 := Lib.hid hc1; clear hc1
  by_cases h16 : len ≤ 16
  · go_wp2_with fail
    refine Calls.mono (TenantsSize_any (HT.out.non C1.out)) ?_
    rintro e w2 ⟨z, q, rfl, rfl⟩
    by_cases hz : z ≤ 5000
    · go_wp2_with fail
      refine Calls.mono (made_any ((HT.out.non C1.out).drewN q) HO.out) ?_
      rintro e w3 ⟨hc3, hmx⟩
      have C3 := Lib.hid ((C1.out.drewN q).trans hc3); clear hc3
      rcases hmx with ⟨hM, p, m, A, rfl, hl, hb⟩ | ⟨hM, rfl⟩
      · have hTl := HT.out.1
        have hA : A.length = len := hl.len.trans hTl
        have hb' : ∀ k, ledBlk p m A k → w.heap.size ≤ k := fun k hk => Nat.le_trans (by simpa using C1.out.size) (hb k hk)
        have HB := Lib.hid hb'; have HL := Lib.hid hl; have HM := Lib.hid hM
        have h1 : 1 ≤ len := by have := hM.1; omega
        have HAl := Lib.hid hA
        clear hA hTl hb' hb hl hM
        go_wp2_with fail
        refine Calls.mono (made_any (HT.out.non C3.out) HO.out) ?_
        rintro e w4 ⟨hc4, hmy⟩
        rcases hmy with ⟨hM2, p2, m2, A2, rfl, hl2, hb2⟩ | ⟨hM2, _⟩
        · have hA2 : A2.length = len := hl2.len.trans HT.out.1
          have HA2 := Lib.hid hA2
          have HB2 := Lib.hid hb2; have HL2 := Lib.hid hl2
          have HL4 := Lib.hid (HL.out.non hc4)
          have C4 := Lib.hid (C3.out.trans hc4)
          have hlow : ∀ i, ledBlk p m A i → i < w3.heap.size := fun i hi => HL.out.lt hi
          have HLOW := Lib.hid hlow
          clear hc4 hM2 hl2 hb2 hA2 hlow HL
          obtain ⟨k, hk⟩ : ∃ k, k = xk % len := ⟨_, rfl⟩
          have hkl : k < len := by rw [hk]; exact Nat.mod_lt _ (by omega)
          have ht : Int.tmod (xk : Int) (len : Int) = (k : Int) := by rw [tmod_nat, hk]
          have IX : Hid (inA A (k : Int)) := ⟨by omega, by have := HAl.out; omega⟩
          have IY : Hid (inA A2 (k : Int)) := ⟨by omega, by have := HA2.out; omega⟩
          have LO := Lib.hid HM.out.lok
          have hrk : 0 ≤ (nth T k).rate ∧ (nth T k).rate ≤ 1073741824 := HM.out.lok k
          clear hk
          obtain ⟨b, off, rfl, hb, _⟩ := HT.out.2.2.2.2 (by omega)
          have HCC := Lib.hid ((HT.out.2.2.2.2 (by omega)))
          -- the last step of both: a tick of x
          have htick : ∀ (w5 : World) (Lx Ly : Nat → Int), LedAt w5 p m A T Lx → LedAt w5 p2 m2 A2 T Ly → Chg Non w w5 → Calls Try.prog 11 #[.pointer (some ⟨p, 0, none⟩)] w5 fun e w6 => e = .returned (.int .i64 0) ∧
              Chg Non w w6 ∧ (∀ w', Chg Non w6 w' → LedAt w' p m A T (rates T)) ∧ (∀ w', Chg Non w6 w' → LedAt w' p2 m2 A2 T Ly) := by
            intro w5 Lx Ly hx hy hc
            refine Calls.mono (Tick_yes hx) ?_
            rintro e w6 ⟨rfl, hl, hc6⟩
            refine ⟨rfl, hc.next hc6 fun i hi ⟨j, hj, e⟩ => by have := HB.out i (.inr (.inr ⟨j, hj, e⟩)); omega, fun w' h => hl.non h, fun w' h => (hy.chg hc6 fun i hi ⟨j, hj, e⟩ => ?_).non h⟩
            have h1 := HB2.out i hi
            have h2 := HLOW.out i (.inr (.inr ⟨j, hj, e⟩))
            omega
          have HTK := Lib.hid htick; clear htick
          have hsep : ∀ (wa wb : World) (Ly : Nat → Int), LedAt wa p2 m2 A2 T Ly → Chg (fun k => ∃ j, j < A.length ∧ k = adr A j) wa wb → LedAt wb p2 m2 A2 T Ly := by
            intro wa wb Ly hy hc
            refine hy.chg hc fun i hi ⟨j, hj, e⟩ => ?_
            have h1 := HB2.out i hi
            have h2 := HLOW.out i (.inr (.inr ⟨j, hj, e⟩))
            omega
          have hsep2 : ∀ (wa wb : World) (Lx : Nat → Int), LedAt wa p m A T Lx → Chg (fun k => ∃ j, j < A2.length ∧ k = adr A2 j) wa wb → LedAt wb p m A T Lx := by
            intro wa wb Ly hy hc
            refine hy.chg hc fun i hi ⟨j, hj, e⟩ => ?_
            have h1 := HB2.out i (.inr (.inr ⟨j, hj, e⟩))
            have h2 := HLOW.out i hi
            omega
          have HS := Lib.hid hsep; have HS2 := Lib.hid hsep2; clear hsep hsep2
          by_cases hneg : n < 0
          · go_wp2_with fail
            refine Calls.mono (spend_arg HL4.out LO.out (.inr hneg)) ?_
            rintro e w' ⟨rfl, rfl⟩
            go_wp2_with fail
            refine Calls.mono (spend_arg HL2.out LO.out (.inr hneg)) ?_
            rintro e w' ⟨rfl, rfl⟩
            go_wp2_with fail
            refine Calls.mono (HTK.out _ _ _ HL4.out HL2.out C4.out) ?_
            rintro e w6 ⟨rfl, hc6, hlx6, hly6⟩
            have HC6 := Lib.hid hc6; have LX := Lib.hid hlx6; have LY := Lib.hid hly6
            have HT6 := HT.out.non hc6
            obtain ⟨b', off', hao, hb6, hcell6⟩ := HT6.2.2.2.2 (by omega)
            cases hao
            have HC := Lib.hid hcell6
            clear hc6 hlx6 hly6 HT6 hcell6
            have hlx : ∀ w', Chg Non w6 w' → Calls Try.prog 24 #[.pointer (some ⟨p, 0, none⟩), .int .i64 (k : Int)] w' fun e w2 => e = .returned (.int .i64 (nth T k).rate) ∧ w' = w2 := fun w' h => left_v (LX.out w' h) IX.out rfl
            have hly : ∀ w', Chg Non w6 w' → Calls Try.prog 24 #[.pointer (some ⟨p2, 0, none⟩), .int .i64 (k : Int)] w' fun e w2 => e = .returned (.int .i64 ((nth T k).rate)) ∧ w' = w2 := fun w' h => left_v (LY.out w' h) IY.out (by rfl)
            have HLX := Lib.hid hlx; have HLY := Lib.hid hly
            have c2 := (HC.out k hkl).2.2
            have k0 : (0 : Int) ≤ (k : Int) := by omega
            have k1 : (k : Int) < (len : Int) := by omega
            clear hlx hly
            go_wp2_with fail
            go_quiet ((go_at_call 24; with_reducible refine Calls.mono (HLX.out _ (by simp)) ?_; rintro e w2 ⟨rfl, rfl⟩; exact ⟨rfl, _, rfl⟩))
            go_wp2_with fail
            go_quiet ((go_at_call 24; with_reducible refine Calls.mono (HLY.out _ (by simp)) ?_; rintro e w2 ⟨rfl, rfl⟩; exact ⟨rfl, _, rfl⟩))
            go_wp2_with fail
            go_ret
            exact ⟨rfl, ((HC6.out.drewN _).drewN _).belowN⟩
          · by_cases hlim : (nth T k).rate < n
            · go_wp2_with fail
              refine Calls.mono (spend_limit HL4.out LO.out IX.out (by omega) hlim) ?_
              rintro e w' ⟨rfl, rfl⟩
              go_wp2_with fail
              refine Calls.mono (spend_limit HL2.out LO.out IY.out (by omega) hlim) ?_
              rintro e w' ⟨rfl, rfl⟩
              go_wp2_with fail
              refine Calls.mono (HTK.out _ _ _ HL4.out HL2.out C4.out) ?_
              rintro e w6 ⟨rfl, hc6, hlx6, hly6⟩
              have HC6 := Lib.hid hc6; have LX := Lib.hid hlx6; have LY := Lib.hid hly6
              have HT6 := HT.out.non hc6
              obtain ⟨b', off', hao, hb6, hcell6⟩ := HT6.2.2.2.2 (by omega)
              cases hao
              have HC := Lib.hid hcell6
              clear hc6 hlx6 hly6 HT6 hcell6
              have hlx : ∀ w', Chg Non w6 w' → Calls Try.prog 24 #[.pointer (some ⟨p, 0, none⟩), .int .i64 (k : Int)] w' fun e w2 => e = .returned (.int .i64 (nth T k).rate) ∧ w' = w2 := fun w' h => left_v (LX.out w' h) IX.out rfl
              have hly : ∀ w', Chg Non w6 w' → Calls Try.prog 24 #[.pointer (some ⟨p2, 0, none⟩), .int .i64 (k : Int)] w' fun e w2 => e = .returned (.int .i64 ((nth T k).rate)) ∧ w' = w2 := fun w' h => left_v (LY.out w' h) IY.out (by rfl)
              have HLX := Lib.hid hlx; have HLY := Lib.hid hly
              have c2 := (HC.out k hkl).2.2
              have k0 : (0 : Int) ≤ (k : Int) := by omega
              have k1 : (k : Int) < (len : Int) := by omega
              clear hlx hly
              go_wp2_with fail
              go_quiet ((go_at_call 24; with_reducible refine Calls.mono (HLX.out _ (by simp)) ?_; rintro e w2 ⟨rfl, rfl⟩; exact ⟨rfl, _, rfl⟩))
              go_wp2_with fail
              go_quiet ((go_at_call 24; with_reducible refine Calls.mono (HLY.out _ (by simp)) ?_; rintro e w2 ⟨rfl, rfl⟩; exact ⟨rfl, _, rfl⟩))
              go_wp2_with fail
              go_ret
              exact ⟨rfl, ((HC6.out.drewN _).drewN _).belowN⟩
            · go_wp2_with fail
              refine Calls.mono (spend_ok HL4.out LO.out IX.out (by omega) (show n ≤ (nth T k).rate by omega)) ?_
              rintro e w5 ⟨rfl, hl5, hc5⟩
              have HL5 := Lib.hid hl5
              have HL52 := Lib.hid (HS.out _ _ _ HL2.out hc5)
              have C5 : Hid (Chg Non w w5) := C4.out.next hc5 fun i hi ⟨j, hj, e⟩ => by have := HB.out i (.inr (.inr ⟨j, hj, e⟩)); omega
              clear hl5 hc5
              go_wp2_with fail
              refine Calls.mono (spend_ok HL52.out LO.out IY.out (by omega) (show n ≤ (nth T k).rate by omega)) ?_
              rintro e w5' ⟨rfl, hl5, hc5⟩
              have HL6 := Lib.hid (HS2.out _ _ _ HL5.out hc5)
              have HL62 := Lib.hid hl5
              have C6 : Hid (Chg Non w w5') := C5.out.next hc5 fun i hi ⟨j, hj, e⟩ => by have := HB2.out i (.inr (.inr ⟨j, hj, e⟩)); have := C3.out.size; omega
              clear hl5 hc5
              go_wp2_with fail
              refine Calls.mono (HTK.out _ _ _ HL6.out HL62.out C6.out) ?_
              rintro e w6 ⟨rfl, hc6, hlx6, hly6⟩
              have HC6 := Lib.hid hc6; have LX := Lib.hid hlx6; have LY := Lib.hid hly6
              have HT6 := HT.out.non hc6
              obtain ⟨b', off', hao, hb6, hcell6⟩ := HT6.2.2.2.2 (by omega)
              cases hao
              have HC := Lib.hid hcell6
              clear hc6 hlx6 hly6 HT6 hcell6
              have hwr : IntKind.i64.wrap ((nth T k).rate - n) = (nth T k).rate - n := IntWalk.i64_in _ ⟨by omega, by omega⟩
              have hlx : ∀ w', Chg Non w6 w' → Calls Try.prog 24 #[.pointer (some ⟨p, 0, none⟩), .int .i64 (k : Int)] w' fun e w2 => e = .returned (.int .i64 (nth T k).rate) ∧ w' = w2 := fun w' h => left_v (LX.out w' h) IX.out rfl
              have hly : ∀ w', Chg Non w6 w' → Calls Try.prog 24 #[.pointer (some ⟨p2, 0, none⟩), .int .i64 (k : Int)] w' fun e w2 => e = .returned (.int .i64 ((nth T k).rate - n)) ∧ w' = w2 := fun w' h => left_v (LY.out w' h) IY.out (by rw [upd, if_pos rfl]; rfl)
              have HLX := Lib.hid hlx; have HLY := Lib.hid hly
              have c2 := (HC.out k hkl).2.2
              have k0 : (0 : Int) ≤ (k : Int) := by omega
              have k1 : (k : Int) < (len : Int) := by omega
              clear hlx hly
              go_wp2_with fail
              go_quiet ((go_at_call 24; with_reducible refine Calls.mono (HLX.out _ (by simp)) ?_; rintro e w2 ⟨rfl, rfl⟩; exact ⟨rfl, _, rfl⟩))
              go_wp2_with fail
              go_quiet ((go_at_call 24; with_reducible refine Calls.mono (HLY.out _ (by simp)) ?_; rintro e w2 ⟨rfl, rfl⟩; exact ⟨rfl, _, rfl⟩))
              go_wp2_with fail
              go_ret
              exact ⟨rfl, ((HC6.out.drewN _).drewN _).belowN⟩
        · exact absurd HM.out hM2
      · go_wp2_with fail
        refine Calls.mono (made_any (HT.out.non C3.out) HO.out) ?_
        rintro e w4 ⟨hc4, ⟨hM2, _⟩ | ⟨_, rfl⟩⟩
        · exact absurd hM2 hM
        · have C4 := Lib.hid (C3.out.trans hc4); clear hc4
          go_wp2_with fail
          go_ret
          exact ⟨rfl, C4.out.belowN⟩
    · go_wp2_with fail
      refine Calls.mono (HAL.out _) ?_
      rintro e w3 ⟨rfl, hc3⟩
      have C3 := Lib.hid ((C1.out.drewN q).trans hc3); clear hc3
      go_wp2_with fail
      go_ret
      exact ⟨rfl, C3.out.belowN⟩
  · go_wp2_with fail
    refine Calls.mono (HAL.out _) ?_
    rintro e w3 ⟨rfl, hc3⟩
    have C3 := Lib.hid (C1.out.trans hc3); clear hc3
    go_wp2_with fail
    go_ret
    exact ⟨rfl, C3.out.belowN⟩
end Go.Proofs.Ytdiabilcamomcaa
