/- Seals, walked: Check; the document's digits, Make and Check. -/
import Derived.Test.YtbmopcmhokpchaaDoorSealMake
import Derived.Test.YtbmopcmhokpchaaDoorSumsTold
import Derived.Laws.BitsAllLaws
namespace Go.Proofs.YtbmopcmhokpchaaDoor
open Go.RowKit Go.Shelf
set_option linter.unusedVariables false
set_option linter.unusedSimpArgs false
attribute [local go_sem ↓] Go.wp_at_zero Go.wp_at_succ
theorem u8_or_xor (a x y : UInt8) : bits .or .u8 (a.toNat : Int) (bits .xor .u8 (x.toNat : Int) (y.toNat : Int)) = ((a ||| (x ^^^ y)).toNat : Int) := by
  rw [u8_xor_nat _ _ x.toNat_lt y.toNat_lt, ← UInt8.toNat_xor, u8_or_nat _ _ a.toNat_lt (x ^^^ y).toNat_lt, UInt8.toNat_or]
theorem or_xor_zero (a x y : UInt8) : (a ||| (x ^^^ y)) = 0 ↔ a = 0 ∧ x = y := by
  rw [UInt8.or_eq_zero_iff, UInt8.xor_eq_zero_iff]
theorem take_succ_iff {xs bs : List UInt8} {k : Nat} (hl : xs.length = bs.length) (hk : k < xs.length) : (xs.take (k + 1) = bs.take (k + 1)) ↔ xs.take k = bs.take k ∧ xs.getD k 0 = bs.getD k 0 := by
  constructor
  · intro h
    have h0 : xs.take k = bs.take k := by
      have := congrArg (List.take k) h
      rwa [List.take_take, List.take_take, Nat.min_eq_left (by omega)] at this
    exact ⟨h0, (take_succ_eq hl hk h0).1 h⟩
  · rintro ⟨h0, h1⟩
    exact (take_succ_eq hl hk h0).2 h1
theorem Make_of {k nm s : List UInt8} {u : Nat} (hk : k.length ≤ 1000000) (hn : nm.length ≤ 1000000) (hu : u < 18446744073709551616) (hs : sealOf k nm u = s) (w : World) (htab : Lib.TabIs Tryd.prog w "internal/strconv.uint64pow10" .u64 Lib.pow10Tab) :
    Calls Tryd.prog 7 #[.string ⟨k.toArray⟩, .string ⟨nm.toArray⟩, .int .u64 (u : Int)] w fun e w' => e = .returned (.string ⟨s.toArray⟩) ∧ Chg Non w w' := by subst hs; exact Make_any hk hn hu w htab
set_option maxRecDepth 20000 in
set_option maxHeartbeats 1000000 in
theorem Check_any {k nm : List UInt8} {u : Nat} (hk : k.length ≤ 1000000) (hn : nm.length ≤ 1000000) (hu : u < 18446744073709551616) (sg : List UInt8) (w : World) (htab : Lib.TabIs Tryd.prog w "internal/strconv.uint64pow10" .u64 Lib.pow10Tab) :
    Calls Tryd.prog 9 #[.string ⟨k.toArray⟩, .string ⟨nm.toArray⟩, .int .u64 (u : Int), .string ⟨sg.toArray⟩] w fun e w' => e = .returned (.bool (decide (sg = sealOf k nm u))) ∧ Chg Non w w' := by
  have HT := Lib.hid htab; clear htab
  obtain ⟨s, hs⟩ : ∃ s, sealOf k nm u = s := ⟨_, rfl⟩
  have sl : s.length = 64 := by rw [← hs, sealOf_length]
  have HS := Lib.hid hs
  rw [hs]
  clear hs
  have SL := Lib.hid sl; clear sl
  by_cases h64 : sg.length = 64
  · have AL := Lib.hid h64
    have b1 : ((sg.length : Int) != (s.length : Int)) = false := by rw [SL.out, AL.out]; rfl
    clear h64
    go_enter Tryd.func9, Tryd.ntmps9
    go_wp2_with (go_at_call 7; refine Calls.mono (Make_of hk hn hu HS.out _ HT.out) ?_; rintro e w1 ⟨rfl, hc1⟩; have C1 := Lib.hid hc1; clear hc1)
    go_loopw [10, 23] (fun a i wr => ∃ k : Nat, ∃ ap : UInt8, k ≤ 64 ∧ a = .int .u8 (ap.toNat : Int) ∧ i = .int .i64 k ∧ (ap = 0 ↔ s.take k = sg.take k) ∧ ∃ q, wr = w1.drewN q) (fun _ i _ => 64 - (intOf i).toNat)
    case atStart => exact ⟨0, 0, by omega, rfl, rfl, by simp, 0, rfl⟩
    case round =>
      obtain ⟨j, ap, hj, rfl, rfl, hap, q, rfl⟩ := hrel
      have HA := Lib.hid hap; clear hap
      by_cases hlt : j < 64
      · have hx : ∀ wx, (Instr.index 9 (.string ⟨s.toArray⟩) (.int .i64 j)).run Tryd.prog wx = .ok (.int .u8 ((s.getD j 0).toNat : Int)) wx := fun wx => run_index_text Tryd.underlying9 (by have := SL.out; omega) wx
        have hy : ∀ wx, (Instr.index 9 (.string ⟨sg.toArray⟩) (.int .i64 j)).run Tryd.prog wx = .ok (.int .u8 ((sg.getD j 0).toNat : Int)) wx := fun wx => run_index_text Tryd.underlying9 (by have := AL.out; omega) wx
        have hiff := take_succ_iff (xs := s) (bs := sg) (k := j) (by rw [SL.out, AL.out]) (by have := SL.out; omega)
        generalize s.getD j 0 = x at hx hiff
        generalize sg.getD j 0 = y at hy hiff
        have HI := Lib.hid hiff; clear hiff
        have hor := u8_or_xor ap x y
        have hz := or_xor_zero ap x y
        generalize ap ||| (x ^^^ y) = ap' at hor hz
        have HZ := Lib.hid hz; clear hz
        have j1 : (j : Int) < (s.length : Int) := by have := SL.out; omega
        go_wp2_with fail
        go_quiet (fail)
        go_wp2_with fail
        go_roundw
        case rel => exact ⟨j + 1, ap', by omega, rfl, by go_num, by rw [HZ.out, HI.out, HA.out], _, rfl⟩
        case measure => simp [intOf]; omega
      · have j1 : ¬ (j : Int) < (s.length : Int) := by have := SL.out; omega
        have HF : Hid (decide (sg = s) = ((ap.toNat : Int) == 0)) := by
          have hj64 : j = 64 := by omega
          have h := HA.out
          rw [hj64, List.take_of_length_le (by have := SL.out; omega), List.take_of_length_le (by have := AL.out; omega)] at h
          rw [Bool.eq_iff_iff, decide_eq_true_iff, beq_iff_eq]
          constructor
          · intro e
            rw [h.2 e.symm]; rfl
          · intro e
            exact (h.1 (UInt8.toNat_inj.1 (by simpa using e))).symm
        go_wp2_with fail
        go_ret
        exact ⟨by rw [HF.out]; rfl, C1.out.drewN q⟩
  · have b1 : ((sg.length : Int) != (s.length : Int)) = true := by rw [SL.out]; simp; omega
    have hne : decide (sg = s) = false := by
      rw [decide_eq_false_iff_not]
      intro e
      exact h64 (by rw [e, SL.out])
    rw [hne]
    clear h64 hne
    go_enter Tryd.func9, Tryd.ntmps9
    go_wp2_with (go_at_call 7; refine Calls.mono (Make_of hk hn hu HS.out _ HT.out) ?_; rintro e w1 ⟨rfl, hc1⟩; have C1 := Lib.hid hc1; clear hc1)
    go_ret
    exact ⟨rfl, C1.out⟩
def tenDigits : ByteArray := { data := #[48, 49, 50, 51, 52, 53, 54, 55, 56, 57] }
theorem ten_cut : ∀ n : Fin 10, tenDigits.extract n.val (n.val + 1) = { data := #[UInt8.ofNat (48 + n.val)] } := by decide
theorem run_ten_slice {P : Program} {t : TypeId} (ht : P.underlying t = some .string) (k : IntKind) {n : Nat} (hn : n < 10) (w : World) :
    (Instr.slice t (.string { data := #[48, 49, 50, 51, 52, 53, 54, 55, 56, 57] }) (some (.int k n)) (some (.int k ((n : Int) + 1))) none).run P w = .ok (.string { data := #[UInt8.ofNat (48 + n)] }) w := by
  have h := ten_cut ⟨n, hn⟩
  unfold tenDigits at h
  rw [run_slice_string_if w t _ k k (n : Int) ((n : Int) + 1) ht]
  have hs : (ByteArray.size { data := #[48, 49, 50, 51, 52, 53, 54, 55, 56, 57] } : Nat) = 10 := rfl
  rw [if_pos (by rw [hs]; omega), if_pos (by omega)]
  have e1 : ((n : Int) + 1).toNat = n + 1 := by omega
  rw [e1, Int.toNat_natCast]
  simp only at h
  rw [h]
end Go.Proofs.YtbmopcmhokpchaaDoor
