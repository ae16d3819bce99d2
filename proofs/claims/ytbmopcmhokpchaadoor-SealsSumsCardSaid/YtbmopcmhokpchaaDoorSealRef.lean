/- Seals, walked: the document's digits, Make and Check; what is great; 'alive'. -/
import Derived.Test.YtbmopcmhokpchaaDoorSealCheck
import Derived.Test.YtbmopcmhokpchaaDoorShaRefKey
namespace Go.Proofs.YtbmopcmhokpchaaDoor
open Go.RowKit Go.Shelf
set_option linter.unusedVariables false
set_option linter.unusedSimpArgs false
attribute [local go_sem ↓] Go.wp_at_zero Go.wp_at_succ
theorem decDigits_small {u : Nat} (h : u < 10) : Lib.decDigits u = [UInt8.ofNat (48 + u)] := by rw [Lib.decDigits, dif_pos h]
theorem decDigits_big {u : Nat} (h : ¬ u < 10) : Lib.decDigits u = Lib.decDigits (u / 10) ++ [UInt8.ofNat (48 + u % 10)] := by rw [Lib.decDigits, dif_neg h]
set_option maxRecDepth 20000 in
theorem digits_any : ∀ (u : Nat), u < 18446744073709551616 → ∀ w : World,
    Calls Tryd.prog 18 #[.int .u64 (u : Int)] w fun e w' => e = .returned (.string ⟨(Lib.decDigits u).toArray⟩) ∧ ∃ q, w' = w.drewN q := by
  intro u
  induction u using Nat.strongRecOn with
  | _ u ih =>
    intro hu w
    by_cases h : u < 10
    · have hs := fun wx => run_ten_slice (P := Tryd.prog) (t := 9) Tryd.underlying9 .u64 h wx
      have e := decDigits_small h
      rw [e]
      generalize UInt8.ofNat (48 + u) = d at hs
      clear ih e
      go_enter Tryd.func18, Tryd.ntmps18
      go_wp2_with fail
      go_ret
      exact ⟨rfl, 0, rfl⟩
    · have hs := fun wx => run_ten_slice (P := Tryd.prog) (t := 9) Tryd.underlying9 .u64 (n := u % 10) (by omega) wx
      rw [decDigits_big h]
      have IH := Lib.hid (ih (u / 10) (by omega) (by omega))
      generalize UInt8.ofNat (48 + u % 10) = d at hs
      have dl := decDigits_le (u := u / 10) (by omega)
      generalize Lib.decDigits (u / 10) = ds at IH dl
      clear ih
      have e1 : ((u % 10 : Nat) : Int) = (u : Int) % 10 := by omega
      have e2 : ((u / 10 : Nat) : Int) = (u : Int) / 10 := by omega
      rw [e1] at hs
      rw [e2] at IH
      have h1 : ¬ (u : Int) < 10 := by omega
      have ht : (u : Int).tmod 10 = (u : Int) % 10 := Int.tmod_eq_emod_of_nonneg (by omega)
      have w1 : IntKind.u64.wrap ((u : Int) / 10) = (u : Int) / 10 := IntWalk.u64_in _ ⟨by omega, by omega⟩
      have w2 : IntKind.u64.wrap ((u : Int) % 10) = (u : Int) % 10 := IntWalk.u64_in _ ⟨by omega, by omega⟩
      have w3 : IntKind.u64.wrap ((u : Int) % 10 + 1) = (u : Int) % 10 + 1 := IntWalk.u64_in _ ⟨by omega, by omega⟩
      clear e1 e2 h
      have ap : (⟨ds.toArray⟩ : ByteArray) ++ (⟨#[d]⟩ : ByteArray) = ⟨(ds ++ [d]).toArray⟩ := ba_append ds [d]
      go_enter Tryd.func18, Tryd.ntmps18
      go_wp2_with fail
      go_quiet ((go_at_call 18; exact Calls.quiet_of (IH.out _)))
      go_wp2_with fail
      go_ret
      exact ⟨rfl, _, rfl⟩
theorem digits_of {u : Nat} (hu : u < 18446744073709551616) {ds : List UInt8} (h : ds = Lib.decDigits u) (w : World) :
    Calls Tryd.prog 18 #[.int .u64 (u : Int)] w fun e w' => e = .returned (.string ⟨ds.toArray⟩) ∧ ∃ q, w' = w.drewN q := by subst h; exact digits_any u hu w
set_option maxRecDepth 20000 in
set_option maxHeartbeats 1000000 in
theorem refMake_any {k nm : List UInt8} {u : Nat} (hk : k.length ≤ 400000) (hn : nm.length ≤ 400000) (hu : u < 18446744073709551616) (w : World) :
    Calls Tryd.prog 8 #[.string ⟨k.toArray⟩, .string ⟨nm.toArray⟩, .int .u64 (u : Int)] w fun e w' => e = .returned (.string ⟨(sealOf k nm u).toArray⟩) ∧ Chg Non w w' := by
  have dl := decDigits_le hu
  obtain ⟨cap, W, hcv, hR, hC, _⟩ := conv_bytes w k (by unfold maxLen; omega)
  have R := Lib.hid hR; have C := Lib.hid hC
  obtain ⟨ds, hds⟩ : ∃ ds, ds = Lib.decDigits u := ⟨_, rfl⟩
  have DS := Lib.hid hds
  rw [← hds] at dl
  clear hR hC hds
  have ap1 : (⟨nm.toArray⟩ : ByteArray) ++ (⟨#[0]⟩ : ByteArray) = ⟨(nm ++ [0]).toArray⟩ := ba_append nm [0]
  have ap2 : (⟨(nm ++ [0]).toArray⟩ : ByteArray) ++ (⟨ds.toArray⟩ : ByteArray) = ⟨((nm ++ [0]) ++ ds).toArray⟩ := ba_append _ _
  have ll : ((nm ++ [0]) ++ ds).length ≤ 400021 := by simp; omega
  have l1 : (nm ++ [0]).length ≤ 400001 := by simp; omega
  have HF : Hid (sealOf k nm u = hexs (hmac k ((nm ++ [0]) ++ ds))) := Lib.hid (by rw [sealOf, ← DS.out]; simp)
  generalize (nm ++ [0]) ++ ds = s at ap2 ll HF
  generalize nm ++ [0] = n1 at ap1 ap2 l1
  have LL := Lib.hid ll; clear ll
  go_enter Tryd.func8, Tryd.ntmps8
  go_wp2_with (first
    | (go_at_call 18; refine Calls.mono (digits_of hu DS.out _) ?_; rintro e w1 ⟨rfl, q, rfl⟩; obtain ⟨cap2, W2, hcv2, hR2, hC2, _⟩ := conv_bytes (W.drewN q) s (by have := LL.out; unfold maxLen; omega); have R1 := Lib.hid (Rd.chg R.out (((Chg.refl Non W).drewN q).trans hC2) (fun h => h)); have R2 := Lib.hid hR2; have C2 := Lib.hid (Chg.trans C.out (((Chg.refl Non W).drewN q).trans hC2)); clear hR2 hC2)
    | (go_at_call 17; refine Calls.mono (refKeyed_any R1.out (by omega) R2.out (by have := LL.out; omega)) ?_; rintro e w3 ⟨rfl, hc3⟩; have C3 := Lib.hid (C2.out.trans hc3); clear hc3 hcv hcv2)
    | (go_at_call 16; refine Calls.mono (refText_any _ (hmac_length _ _) _) ?_; rintro e w4 ⟨rfl, hc4⟩; have C4 := Lib.hid (C3.out.trans hc4); clear hc4))
  go_ret
  exact ⟨by rw [HF.out]; rfl, C4.out⟩
set_option maxRecDepth 20000 in
theorem refCheck_any {k nm : List UInt8} {u : Nat} (hk : k.length ≤ 400000) (hn : nm.length ≤ 400000) (hu : u < 18446744073709551616) (sg : List UInt8) (w : World) :
    Calls Tryd.prog 10 #[.string ⟨k.toArray⟩, .string ⟨nm.toArray⟩, .int .u64 (u : Int), .string ⟨sg.toArray⟩] w fun e w' => e = .returned (.bool (decide (sg = sealOf k nm u))) ∧ Chg Non w w' := by
  go_enter Tryd.func10, Tryd.ntmps10
  go_wp2_with (go_at_call 8; refine Calls.mono (refMake_any hk hn hu _) ?_; rintro e w1 ⟨rfl, hc1⟩; have C1 := Lib.hid hc1; clear hc1)
  go_ret
  refine ⟨?_, C1.out⟩
  have : (sg == sealOf k nm u) = decide (sg = sealOf k nm u) := by rw [Bool.eq_iff_iff, beq_iff_eq, decide_eq_true_iff]
  simp [this]
/-- An asking, as it lies in four cells. -/
def askCells (k nm : List UInt8) (u : Nat) (sg : List UInt8) : Array Value := #[.string ⟨k.toArray⟩, .string ⟨nm.toArray⟩, .int .u64 (u : Int), .string ⟨sg.toArray⟩]
theorem great_any (k nm : List UInt8) (u : Nat) (sg : List UInt8) (w : World) :
    Calls Tryd.prog 6 #[.agg (askCells k nm u sg)] w fun e w' => e = .returned (.bool (decide (3000 < k.length ∨ 3000 < nm.length ∨ 3000 < sg.length))) ∧ Chg Non w w' := by
  by_cases h1 : 3000 < k.length
  · rw [decide_eq_true (.inl h1)]
    unfold askCells
    go_enter Tryd.func6, Tryd.ntmps6
    go_wp2_with fail
    go_ret
    exact ⟨rfl, (Chg.refl _ _).alloc _⟩
  · by_cases h2 : 3000 < nm.length
    · rw [decide_eq_true (.inr (.inl h2))]
      unfold askCells
      go_enter Tryd.func6, Tryd.ntmps6
      go_wp2_with fail
      go_ret
      exact ⟨rfl, (Chg.refl _ _).alloc _⟩
    · by_cases h3 : 3000 < sg.length
      · rw [decide_eq_true (.inr (.inr h3))]
        unfold askCells
        go_enter Tryd.func6, Tryd.ntmps6
        go_wp2_with fail
        go_ret
        exact ⟨by simp; omega, (Chg.refl _ _).alloc _⟩
      · rw [decide_eq_false (by omega)]
        unfold askCells
        go_enter Tryd.func6, Tryd.ntmps6
        go_wp2_with fail
        go_ret
        exact ⟨by simp; omega, (Chg.refl _ _).alloc _⟩
end Go.Proofs.YtbmopcmhokpchaaDoor
