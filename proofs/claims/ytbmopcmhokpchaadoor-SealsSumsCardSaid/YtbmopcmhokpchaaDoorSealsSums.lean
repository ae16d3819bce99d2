/- SealsSums, walked. -/
import Derived.Test.YtbmopcmhokpchaaDoorSealAlive
namespace Go.Proofs.YtbmopcmhokpchaaDoor
open Go.RowKit Go.Shelf
set_option linter.unusedVariables false
set_option linter.unusedSimpArgs false
attribute [local go_sem ↓] Go.wp_at_zero Go.wp_at_succ
def empV : Value → Nat | .string s => if s.size = 0 then 1 else 0 | _ => 0
theorem empV_cons (c : UInt8) (t : List UInt8) : empV (.string ⟨(c :: t).toArray⟩) = 0 := by
  show (if (⟨(c :: t).toArray⟩ : ByteArray).size = 0 then 1 else 0) = 0
  rw [ba_size, if_neg (by simp)]
theorem empV_nil : empV (.string ⟨[].toArray⟩) = 1 := rfl
/-- What the loop over the digits keeps. -/
def DigInv (k m : Nat) (d : List UInt8) : Prop := (m = 0 ∧ d ≠ [] ∧ Lib.decDigits k = d) ∨ ((0 < m ∨ d = []) ∧ Lib.decDigits k = Lib.decDigits m ++ d)
theorem DigInv.step {k m : Nat} {d : List UInt8} (h : Lib.decDigits k = Lib.decDigits m ++ d) : DigInv k (m / 10) (UInt8.ofNat (48 + m % 10) :: d) := by
  by_cases h10 : m < 10
  · refine .inl ⟨by omega, by simp, ?_⟩
    rw [h, decDigits_small h10, Nat.mod_eq_of_lt h10]; rfl
  · refine .inr ⟨.inl (by omega), ?_⟩
    rw [h, decDigits_big h10]; simp
theorem DigInv.len {k m : Nat} {d : List UInt8} (hk : k < 18446744073709551616) (h : DigInv k m d) : d.length ≤ 20 := by
  have hl := decDigits_le hk
  rcases h with ⟨_, _, h⟩ | ⟨_, h⟩
  · rw [h] at hl; exact hl
  · rw [h, List.length_append] at hl; omega
set_option maxRecDepth 40000 in
set_option maxHeartbeats 4000000 in
theorem SealsSums_any (key nm : List UInt8) (n : Nat) (hn : n < 65536) (w : World) (htab : Lib.TabIs Tryd.prog w "internal/strconv.uint64pow10" .u64 Lib.pow10Tab) :
    Calls Tryd.prog 5 #[.string ⟨key.toArray⟩, .string ⟨nm.toArray⟩, .int .u16 (n : Int)] w fun e w' => e = .returned (.bool true) ∧ Below w.heap.size w w' := by
  have HT : Hid (∀ w', Chg Non w w' → Lib.TabIs Tryd.prog w' "internal/strconv.uint64pow10" .u64 Lib.pow10Tab) := Lib.hid (fun w' h => tab_chg htab h)
  clear htab
  have s1 : (⟨key.toArray⟩ : ByteArray).size = key.length := ba_size _
  have s2 : (⟨nm.toArray⟩ : ByteArray).size = nm.length := ba_size _
  by_cases hgr : 3000 < key.length ∨ 3000 < nm.length
  · rcases (show 3000 < key.length ∨ (key.length ≤ 3000 ∧ 3000 < nm.length) by omega) with h | ⟨h, h'⟩
    · have l1 : 3000 < (key.length : Int) := by omega
      clear hgr
      go_enter Tryd.func5, Tryd.ntmps5
      go_wp2_with fail
      refine Calls.mono (alive11_any _ (HT.out _ (by simp))) ?_
      rintro e w1 ⟨rfl, hc1⟩
      have C1 := Lib.hid hc1; clear hc1
      go_wp2_with fail
      refine Calls.mono (alive11_any _ (HT.out _ C1.out)) ?_
      rintro e w2 ⟨rfl, hc2⟩
      have C2 := Lib.hid (C1.out.trans hc2); clear hc2
      go_wp2_with fail
      go_ret
      exact ⟨rfl, C2.out.belowN⟩
    · have l1 : ¬ 3000 < (key.length : Int) := by omega
      have l2 : 3000 < (nm.length : Int) := by omega
      clear hgr
      go_enter Tryd.func5, Tryd.ntmps5
      go_wp2_with fail
      refine Calls.mono (alive11_any _ (HT.out _ (by simp))) ?_
      rintro e w1 ⟨rfl, hc1⟩
      have C1 := Lib.hid hc1; clear hc1
      go_wp2_with fail
      refine Calls.mono (alive11_any _ (HT.out _ C1.out)) ?_
      rintro e w2 ⟨rfl, hc2⟩
      have C2 := Lib.hid (C1.out.trans hc2); clear hc2
      go_wp2_with fail
      go_ret
      exact ⟨rfl, C2.out.belowN⟩
  · have LK := Lib.hid (show key.length ≤ 3000 by omega); have LN := Lib.hid (show nm.length ≤ 3000 by omega)
    have lk : ¬ 3000 < (key.length : Int) := by omega
    have ln : ¬ 3000 < (nm.length : Int) := by omega
    obtain ⟨k, hk⟩ : ∃ k : Nat, n % 10000 = k := ⟨_, rfl⟩
    have hkt : (n : Int).tmod 10000 = (k : Int) := by rw [Int.tmod_eq_emod_of_nonneg (by omega)]; omega
    have hwt : IntKind.i64.wrap (n : Int) = (n : Int) := IntWalk.i64_in _ (by omega)
    have k4 : k < 10000 := by omega
    have hwk : IntKind.u64.wrap (k : Int) = (k : Int) := IntWalk.u64_in _ ⟨by omega, by omega⟩
    have K4 := Lib.hid k4
    have HWK := Lib.hid hwk
    clear hk hgr
    go_enter Tryd.func5, Tryd.ntmps5
    go_wp2_with fail
    refine Calls.mono (alive11_any _ (HT.out _ (by simp))) ?_
    rintro e w1 ⟨rfl, hc1⟩
    have C1 := Lib.hid hc1; clear hc1
    go_wp2_with fail
    go_loopw [8, 9] (fun d m wr => ∃ (ds : List UInt8) (j : Nat), d = .string ⟨ds.toArray⟩ ∧ m = .int .i64 (j : Int) ∧ j < 10000 ∧ DigInv k j ds ∧ ∃ q, wr = w1.drewN q) (fun d m _ => 2 * (intOf m).toNat + empV d)
    case atStart => exact ⟨[], k, rfl, rfl, k4, .inr ⟨.inr rfl, by simp⟩, 0, rfl⟩
    case round =>
      obtain ⟨ds, j, rfl, rfl, hj, hinv, q, rfl⟩ := hrel
      have dl := hinv.len (by omega)
      have hcont : ∀ (_ : 0 < j ∨ ds = []), Lib.decDigits k = Lib.decDigits j ++ ds := fun h => by
        rcases hinv with ⟨h0, h1, _⟩ | ⟨_, h2⟩
        · rcases h with h | h
          · omega
          · exact absurd h h1
        · exact h2
      have hd := fun wx => run_ten_slice (P := Tryd.prog) (t := 9) Tryd.underlying9 .i64 (n := j % 10) (by omega) wx
      have ap : (⟨#[UInt8.ofNat (48 + j % 10)]⟩ : ByteArray) ++ (⟨ds.toArray⟩ : ByteArray) = ⟨(UInt8.ofNat (48 + j % 10) :: ds).toArray⟩ := ba_append [UInt8.ofNat (48 + j % 10)] ds
      have hst := fun h => DigInv.step (hcont h)
      rw [show ((j % 10 : Nat) : Int) = (j : Int) % 10 by omega] at hd
      have ht : (j : Int).tmod 10 = (j : Int) % 10 := Int.tmod_eq_emod_of_nonneg (by omega)
      have hq : (j : Int).tdiv 10 = ((j / 10 : Nat) : Int) := by rw [Int.tdiv_eq_ediv_of_nonneg (by omega)]; omega
      generalize hcc : UInt8.ofNat (48 + j % 10) = c at hd ap hst
      have HC := Lib.hid hcc; clear hcc
      have HI := Lib.hid hinv
      have HST := Lib.hid hst
      clear hinv hcont hst
      by_cases hj0 : 0 < j
      · have j1 : 0 < (j : Int) := by omega
        go_wp2_with fail
        go_roundw
        case rel => exact ⟨c :: ds, j / 10, rfl, by go_num, by omega, HST.out (.inl hj0), _, rfl⟩
        case measure => rw [empV_cons]; simp [intOf]; omega
      · obtain rfl : j = 0 := by omega
        cases ds with
        | nil =>
          have hex : (({ data := #[48, 49, 50, 51, 52, 53, 54, 55, 56, 57] } : ByteArray).extract 0 1 ++ ({ data := #[] } : ByteArray)) = ⟨[48].toArray⟩ := by decide
          obtain rfl : (48 : UInt8) = c := HC.out
          clear hd ap
          go_wp2_with fail
          go_roundw
          case rel => exact ⟨[48], 0, rfl, by go_num, by omega, HST.out (.inr rfl), _, rfl⟩
          case measure =>
            show _ + empV (.string ⟨[48].toArray⟩) < _ + empV (.string ⟨[].toArray⟩)
            rw [empV_cons, empV_nil]
            simp [intOf]
        | cons x t =>
          clear ap hd ht hq
          go_wp2_with fail
          have hdk : Lib.decDigits k = x :: t := by
            rcases HI.out with ⟨_, _, h⟩ | ⟨h, _⟩
            · exact h
            · simp at h
          obtain ⟨ls, hls⟩ : ∃ ls, sealOf key nm k = ls := ⟨_, rfl⟩
          have HLS := Lib.hid hls
          have ll : ls.length = 64 := by rw [← hls, sealOf_length]
          have LL := Lib.hid ll
          have HDK := Lib.hid hdk
          clear hls hdk ll
          refine Calls.mono (Make_of (by have := LK.out; omega) (by have := LN.out; omega) (by have := K4.out; omega) HLS.out _ (HT.out _ (C1.out.drewN q))) ?_
          rintro e w2 ⟨rfl, hc2⟩
          have C2 := Lib.hid ((C1.out.drewN q).trans hc2); clear hc2
          go_wp2_with fail
          go_loopw [11] (fun i wr => ∃ j : Nat, j ≤ 64 ∧ i = .int .i64 (j : Int) ∧ w2 = wr) (fun i _ => 64 - (intOf i).toNat)
          case atStart => exact ⟨0, by omega, rfl, rfl⟩
          case round =>
            obtain ⟨j, hj, rfl, rfl⟩ := hrel
            by_cases h64 : j < 64
            · have hx : ∀ wx, (Instr.index 9 (.string ⟨ls.toArray⟩) (.int .i64 j)).run Tryd.prog wx = .ok (.int .u8 ((ls.getD j 0).toNat : Int)) wx := fun wx => run_index_text Tryd.underlying9 (by have := LL.out; omega) wx
              have hm : ls.getD j 0 ∈ hexs (hmac key (nm ++ 0 :: Lib.decDigits k)) := by
                have h := HLS.out
                unfold sealOf at h
                rw [h]
                have : j < ls.length := by have := LL.out; omega
                simp [List.getD, this]
              have hr := hexs_mem hm
              generalize ls.getD j 0 = c1 at hx hr
              clear hm
              have j1 : (j : Int) < (ls.length : Int) := by have := LL.out; omega
              rcases hr with ⟨r1, r2⟩ | ⟨r1, r2⟩
              · have r3 : ¬ 65 ≤ (c1.toNat : Int) := by omega
                go_wp2_with fail
                go_roundw
                case rel => exact ⟨j + 1, by omega, by go_num, trivial⟩
                case measure => simp [intOf]; omega
              · have r3 : 65 ≤ (c1.toNat : Int) := by omega
                have r4 : ¬ (c1.toNat : Int) ≤ 70 := by omega
                go_wp2_with fail
                go_roundw
                case rel => exact ⟨j + 1, by omega, by go_num, trivial⟩
                case measure => simp [intOf]; omega
            · have j1 : ¬ (j : Int) < (ls.length : Int) := by have := LL.out; omega
              obtain ⟨cap3, W3, hcv3, hR3, hC3, _⟩ := conv_bytes w2 key (by have := LK.out; unfold maxLen; omega)
              have ap1 : (⟨nm.toArray⟩ : ByteArray) ++ (⟨#[0]⟩ : ByteArray) = ⟨(nm ++ [0]).toArray⟩ := ba_append nm [0]
              have ap2 : (⟨(nm ++ [0]).toArray⟩ : ByteArray) ++ (⟨(x :: t).toArray⟩ : ByteArray) = ⟨((nm ++ [0]) ++ (x :: t)).toArray⟩ := ba_append _ _
              have HF : Hid (hexs (hmac key ((nm ++ [0]) ++ (x :: t))) = ls) := Lib.hid (by rw [← HLS.out, sealOf, HDK.out]; simp)
              have ll2 : ((nm ++ [0]) ++ (x :: t)).length ≤ 400021 := by have := LN.out; simp at dl ⊢; omega
              have l1 : (nm ++ [0]).length ≤ 400001 := by have := LN.out; simp; omega
              have l2 : (x :: t).length ≤ 20 := dl
              generalize (nm ++ [0]) ++ (x :: t) = s3 at ap2 ll2 HF
              generalize nm ++ [0] = n1 at ap1 ap2 l1
              generalize x :: t = ds at ap2 l2
              obtain ⟨cap4, W4, hcv4, hR4, hC4, _⟩ := conv_bytes W3 s3 (by unfold maxLen; omega)
              obtain ⟨n4, hn4⟩ : ∃ n4, s3.length = n4 := ⟨_, rfl⟩
              obtain ⟨n3, hn3⟩ : ∃ n3, key.length = n3 := ⟨_, rfl⟩
              rw [hn4] at hcv4 hR4
              rw [hn3] at hcv3 hR3
              have R3 := Lib.hid (hR3.chg hC4 (fun h => h)); have R4 := Lib.hid hR4
              have C4 := Lib.hid (C2.out.trans (hC3.trans hC4))
              have N3 := Lib.hid hn3; have N4 := Lib.hid hn4; have LL2 := Lib.hid ll2
              clear hR3 hR4 hC3 hC4 hn3 hn4 ll2
              go_wp2_with (first
                | (go_at_call 13; refine Calls.mono (Keyed_any R3.out (by have h1 := N3.out; have h2 := LK.out; rw [h1] at h2; omega) R4.out (by have h1 := N4.out; have h2 := LL2.out; rw [h1] at h2; omega)) ?_; rintro e w5 ⟨rfl, hc5⟩; have C5 := Lib.hid (C4.out.trans hc5); clear hc5 hcv3 hcv4)
                | (go_at_call 12; refine Calls.mono (Text_of (hmac_length _ _) HF.out _) ?_; rintro e w6 ⟨rfl, hc6⟩; have C6 := Lib.hid (C5.out.trans hc6); clear hc6))
              go_ret
              exact ⟨by simp, C6.out.belowN⟩
end Go.Proofs.YtbmopcmhokpchaaDoor
