/- What one tenant spends changes nothing of the others'. -/
import Derived.Test.YtdiabilcamomcaaLedMade
import Derived.Test.YtdiabilcamomcaaLedSize
namespace Go.Proofs.Ytdiabilcamomcaa
open Go.RowKit
set_option linter.unusedVariables false
variable {w w' : World} {p m : Nat} {A : List Nat} {T : List Ten} {L : Nat → Int}
theorem May.lok (h : May T) : LOk (rates T) := by
  intro j
  by_cases hj : j < T.length
  · have := (h.2.2 j hj).1.2.2
    exact ⟨by unfold rates; omega, this.2⟩
  · have e : nth T j = tz := by simp [nth, List.getD, List.getElem?_eq_none (show T.length ≤ j by omega)]
    unfold rates
    rw [e]
    decide
theorem Tens.drewN {ao : Option Addr} {n cap : Nat} (h : Tens w ao n cap T) (q : Nat) : Tens (w.drewN q) ao n cap T := h.non ((Chg.refl _ _).drewN q)
theorem Tens.chg {S : Nat → Prop} {B : Nat} {ao : Option Addr} {n cap : Nat} (h : Tens w ao n cap T) (hB : Chg Non w w') {w2 : World} (hc : Chg S w' w2) (hs : ∀ k, S k → w.heap.size ≤ k) : Tens w2 ao n cap T :=
  h.non (hB.next hc fun i hi hS => by have := hs i hS; omega)
theorem LedAt.drewN (h : LedAt w p m A T L) (q : Nat) : LedAt (w.drewN q) p m A T L := h.non ((Chg.refl _ _).drewN q)
theorem tmod_nat (a b : Nat) : Int.tmod (a : Int) (b : Int) = ((a % b : Nat) : Int) := rfl
/-- Spending, whatever is spent: the others' are as they were. -/
theorem spend_some (h : LedAt w p m A T L) (hL : LOk L) {k : Nat} (hk : k < A.length) (n : Int) : Calls Try.prog 12 #[.pointer (some ⟨p, 0, none⟩), .int .i64 (k : Int), .int .i64 n] w fun e w' =>
    ∃ z L', e = .returned (.int .i64 z) ∧ LedAt w' p m A T L' ∧ (∀ j, j ≠ k → L' j = L j) ∧ 0 ≤ L' k ∧ L' k ≤ L k ∧ Chg (fun i => ∃ j, j < A.length ∧ i = adr A j) w w' := by
  refine Calls.mono (Spend_yes h hL (k : Int) n) ?_
  rintro e w' (⟨h1, rfl, rfl⟩ | ⟨_, _, h3, rfl, rfl⟩ | ⟨_, h2, h3, rfl, h4, h5⟩)
  · exact ⟨_, L, rfl, h, fun j hj => rfl, (hL k).1, Int.le_refl _, Chg.refl _ _⟩
  · exact ⟨_, L, rfl, h, fun j hj => rfl, (hL k).1, Int.le_refl _, Chg.refl _ _⟩
  · rw [Int.toNat_natCast] at h3 h4
    refine ⟨_, _, rfl, h4, fun j hj => by rw [upd, if_neg hj], ?_, ?_, h5⟩
    · rw [upd, if_pos rfl]; omega
    · rw [upd, if_pos rfl]; omega
/-- The chapter's fixed answers are as they should be. -/
def Alive : Prop := ∀ w, Calls Try.prog 22 #[] w fun e w' => e = .returned (.bool true) ∧ Chg Non w w'
set_option maxRecDepth 20000 in
set_option maxHeartbeats 1000000 in
theorem LedgersApart_of (hal : Alive) {ao : Option Addr} {len cap : Nat} (h : Tens w ao len cap T) (hok : ∀ i, i < len → TenOk (nth T i)) {x n : Int} (hx : (Lit.int .u8 x).wf = true) (hn : (Lit.int .i64 n).wf = true) :
    Calls Try.prog 6 #[.slice ao len cap, .int .u8 x, .int .i64 n] w fun e w' => e = .returned (.bool true) ∧ Below w.heap.size w w' := by
  have hxb : 0 ≤ x ∧ x ≤ 255 := by
    simp [Lit.wf, IntKind.min, IntKind.max] at hx
    first | omega | (simp [IntKind.signed, IntKind.bits] at hx; omega)
  obtain ⟨xk, rfl⟩ : ∃ xk : Nat, x = (xk : Int) := ⟨x.toNat, by omega⟩
  have hcap := h.2.2.1
  have hlc := h.2.1
  unfold maxLen at hcap
  have HT := Lib.hid h; have HO := Lib.hid hok
  clear h hok hx hn
  have HAL := Lib.hid hal; clear hal
  go_enter Try.func6, Try.ntmps6
  go_wp2_with fail
  refine Calls.mono (HAL.out _) ?_
  rintro e w1 ⟨rfl, hc1⟩
  have C1 := Lib.hid hc1; clear hc1
  by_cases h16 : len ≤ 16
  · go_wp2_with fail
    refine Calls.mono (TenantsSize_any (HT.out.non C1.out)) ?_
    rintro e w2 ⟨z, q, rfl, rfl⟩
    by_cases hz : z ≤ 5000
    · go_wp2_with fail
      refine Calls.mono (made_any ((HT.out.non C1.out).drewN q) HO.out) ?_
      rintro e w3 ⟨hc3, ⟨hM, p, m, A, rfl, hl, hb⟩ | ⟨hM, rfl⟩⟩
      · have hTl := HT.out.1
        have hA : A.length = len := hl.len.trans hTl
        have C3 := Lib.hid ((C1.out.drewN q).trans hc3)
        have hb' : ∀ k, (∃ j, j < A.length ∧ k = adr A j) → w.heap.size ≤ k := fun k ⟨j, hj, e⟩ => Nat.le_trans (by simpa using C1.out.size) (hb k (.inr (.inr ⟨j, hj, e⟩)))
        have HB := Lib.hid hb'; have HL := Lib.hid hl; have HM := Lib.hid hM
        have h1 : 1 ≤ len := by have := hM.1; omega
        obtain ⟨k, hk⟩ : ∃ k, k = xk % len := ⟨_, rfl⟩
        have hkl : k < len := by rw [hk]; exact Nat.mod_lt _ (by omega)
        have ht : Int.tmod (xk : Int) (len : Int) = (k : Int) := by rw [tmod_nat, hk]
        have HK := Lib.hid hk; have HAl := Lib.hid hA; have HTl := Lib.hid hTl
        clear hk hA hTl hb' hb hl hM hc3
        go_wp2_with fail
        refine Calls.mono (spend_some HL.out HM.out.lok (by have := HAl.out; omega) n) ?_
        rintro e w4 ⟨zz, L', rfl, hl4, hoth, hk0, hk1, hc4⟩
        have HC4 : Hid (Chg Non w w4) := C3.out.next hc4 fun i hi ⟨j, hj, e⟩ => by have := HB.out i ⟨j, hj, e⟩; omega
        have HT4 := Lib.hid (HT.out.non HC4.out)
        have hLW : ∀ w', Chg Non w4 w' → LedAt w' p m A T L' := fun w' h => hl4.non h
        have LW := Lib.hid hLW; have OTH := Lib.hid hoth
        clear hc4 hl4 hLW hoth HL C3
        obtain ⟨b, off, rfl, hb, hcell⟩ := HT4.out.2.2.2.2 (by omega)
        have HC := Lib.hid hcell; clear hcell
        go_wp2_with fail
        go_loopw [9] (fun i wr => ∃ k : Nat, k ≤ len ∧ i = .int .i64 k ∧ ∃ q, wr = w4.drewN q) (fun i _ => len - (intOf i).toNat)
        case atStart => exact ⟨0, by omega, rfl, 0, rfl⟩
        case round =>
          obtain ⟨i, hi, rfl, q4, rfl⟩ := hrel
          by_cases hlt : i < len
          · have i0 : (0 : Int) ≤ (i : Int) := by omega
            have i1 : (i : Int) < (len : Int) := by omega
            have c2 := (HC.out i hlt).2.2
            by_cases hik : i = k
            · have hne : ((i : Int) != (k : Int)) = false := by simp [hik]
              have HIK := Lib.hid hik; clear hik
              go_wp2_with fail
              go_quiet (fail)
              go_wp2_with fail
              go_roundw
              case rel => exact ⟨i + 1, by omega, by go_num, _, rfl⟩
              case measure => simp [intOf]; omega
            · have hne : ((i : Int) != (k : Int)) = true := by simp; omega
              have hv : L' ((i : Int).toNat) = (nth T i).rate := (OTH.out i hik).trans rfl
              have hin : inA A (i : Int) := ⟨i0, by have := HAl.out; omega⟩
              have HV := Lib.hid hv; have HIN := Lib.hid hin; have HIK := Lib.hid hik
              clear hv hin hik
              have hlf : ∀ w', Chg Non w4 w' → Calls Try.prog 24 #[.pointer (some ⟨p, 0, none⟩), .int .i64 (i : Int)] w' fun e w2 => e = .returned (.int .i64 (nth T i).rate) ∧ w' = w2 := fun w' h => left_v (LW.out w' h) HIN.out HV.out
              have HLF := Lib.hid hlf; clear hlf
              go_wp2_with fail
              go_quiet ((go_at_call 24; refine Calls.mono (HLF.out _ (by simp)) ?_; rintro e w2 ⟨rfl, rfl⟩; exact ⟨rfl, _, rfl⟩))
              go_wp2_with fail
              go_roundw
              case rel => exact ⟨i + 1, by omega, by go_num, _, rfl⟩
              case measure => simp [intOf]; omega
          · have c2 := (HC.out k hkl).2.2
            have hv : L' ((k : Int).toNat) = L' k := rfl
            have hin : inA A (k : Int) := ⟨by omega, by have := HAl.out; omega⟩
            have hl1 : ∀ w', Chg Non w4 w' → Calls Try.prog 24 #[.pointer (some ⟨p, 0, none⟩), .int .i64 (-1)] w' fun e w2 => e = .returned (.int .i64 (-1)) ∧ w' = w2 := fun w' h => left_out (LW.out w' h) (fun h => by have := h.1; omega)
            have hl2 : ∀ w', Chg Non w4 w' → Calls Try.prog 24 #[.pointer (some ⟨p, 0, none⟩), .int .i64 (len : Int)] w' fun e w2 => e = .returned (.int .i64 (-1)) ∧ w' = w2 := fun w' h => left_out (LW.out w' h) (fun h => by have := h.2; have := HAl.out; omega)
            have hl3 : ∀ w', Chg Non w4 w' → Calls Try.prog 24 #[.pointer (some ⟨p, 0, none⟩), .int .i64 (k : Int)] w' fun e w2 => e = .returned (.int .i64 (L' k)) ∧ w' = w2 := fun w' h => left_v (LW.out w' h) hin hv
            have HL1 := Lib.hid hl1; have HL2 := Lib.hid hl2; have HL3 := Lib.hid hl3
            have k0 : (0 : Int) ≤ (k : Int) := by omega
            have k1 : (k : Int) < (len : Int) := by omega
            have hd1 : decide (L' k ≤ (nth T k).rate) = true := decide_eq_true hk1
            have hd0 : decide (0 ≤ L' k) = true := decide_eq_true hk0
            clear hl1 hl2 hl3 hv hin
            go_wp2_with fail
            go_quiet ((first
              | (go_at_call 24; with_reducible refine Calls.mono (HL1.out _ (by simp)) ?_; rintro e w2 ⟨rfl, rfl⟩; exact ⟨rfl, _, rfl⟩)
              | (go_at_call 24; with_reducible refine Calls.mono (HL2.out _ (by simp)) ?_; rintro e w2 ⟨rfl, rfl⟩; exact ⟨rfl, _, rfl⟩)
              | (go_at_call 24; with_reducible refine Calls.mono (HL3.out _ (by simp)) ?_; rintro e w2 ⟨rfl, rfl⟩; exact ⟨rfl, _, rfl⟩)))
            go_wp2_with fail
            go_ret
            exact ⟨rfl, ((HC4.out.drewN _).drewN _).belowN⟩
      · clear hM
        have C3 := Lib.hid ((C1.out.drewN q).trans hc3); clear hc3
        go_wp2_with fail
        go_ret
        exact ⟨rfl, C3.out.belowN⟩
    · go_wp2_with fail
      refine Calls.mono (HAL.out _) ?_
      rintro e w3 ⟨rfl, hc3⟩
      have C3 := Lib.hid ((C1.out.drewN q).trans hc3); clear hc3
      go_wp2_with fail
      go_ret
      exact ⟨rfl, C3.out.belowN⟩
  · go_wp2_with fail
    refine Calls.mono (HAL.out _) ?_
    rintro e w3 ⟨rfl, hc3⟩
    have C3 := Lib.hid (C1.out.trans hc3); clear hc3
    go_wp2_with fail
    go_ret
    exact ⟨rfl, C3.out.belowN⟩
end Go.Proofs.Ytdiabilcamomcaa
