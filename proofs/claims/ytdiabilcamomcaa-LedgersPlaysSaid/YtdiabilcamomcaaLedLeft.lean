/- What a twin of tenants reads as, and that it is left as it was. -/
import Derived.Test.YtdiabilcamomcaaLedTwin
import Derived.BigQuiet
namespace Go.Proofs.Ytdiabilcamomcaa
open Go.RowKit
set_option linter.unusedVariables false
set_option linter.unusedSimpArgs false
variable {w w' : World} {g n c cap B : Nat} {ao : Option Addr} {T : List Ten}
theorem tcs_get (Z : List Value) : ∀ (T : List Ten) (i d : Nat), i < T.length → d < 3 → (tcs T ++ Z)[i * 3 + d]? = (tcells (nth T i))[d]? := by
  intro T
  induction T with
  | nil => intro i d hi; cases hi
  | cons x T ih =>
    intro i d hi hd
    cases i with
    | zero =>
      simp only [tcs, List.flatMap_cons, tcells, nth, List.getD_cons_zero]
      match d, hd with
      | 0, _ => simp
      | 1, _ => simp
      | 2, _ => simp
    | succ i =>
      have h := ih i d (by simpa using hi) hd
      have e : (i + 1) * 3 + d = (i * 3 + d) + 3 := by omega
      rw [e]
      simp only [tcs, List.flatMap_cons, tcells, nth, List.getD_cons_succ] at h ⊢
      simpa using h
theorem twin_spare (h : Own w B 28 3 (some ⟨g, 0, none⟩) (n + 1) c (tcs T ++ tcells spare)) (hT : T.length = n) : TenAt w g (n * 3) spare := by
  obtain ⟨g', hg', _, _, _, hc, _⟩ := h.form (by have := h.le; omega)
  cases hg'
  have hz := tcs_length T
  refine ⟨?_, ?_, ?_⟩
  · rw [hc _ (by omega), List.getElem?_append_right (by omega)]
    have e : n * 3 - (tcs T).length = 0 := by omega
    rw [e]; rfl
  · rw [hc _ (by omega), List.getElem?_append_right (by omega)]
    have e : n * 3 + 1 - (tcs T).length = 1 := by omega
    rw [e]; rfl
  · rw [hc _ (by omega), List.getElem?_append_right (by omega)]
    have e : n * 3 + 2 - (tcs T).length = 2 := by omega
    rw [e]; rfl
theorem twin_tens (h : Own w B 28 3 (some ⟨g, 0, none⟩) (n + 1) c (tcs T ++ tcells spare)) (hT : T.length = n) : Tens w (some ⟨g, 0, none⟩) n c T := by
  have hle := h.le
  obtain ⟨g', hg', _, hlt, _, hc, _⟩ := h.form (by omega)
  cases hg'
  refine ⟨hT, by omega, hle.2, (fun h => by cases h), fun _ => ⟨g, 0, rfl, hlt, fun i hi => ?_⟩⟩
  rw [Nat.zero_add]
  have h0 := tcs_get (tcells spare) T i 0 (by omega) (by omega)
  have h1 := tcs_get (tcells spare) T i 1 (by omega) (by omega)
  have h2 := tcs_get (tcells spare) T i 2 (by omega) (by omega)
  exact ⟨(hc _ (by omega)).trans h0, (hc _ (by omega)).trans h1, (hc _ (by omega)).trans h2⟩
set_option maxHeartbeats 400000 in
set_option maxRecDepth 20000 in
theorem LeftTenants_any (h1 : Own w B 28 3 (some ⟨g, 0, none⟩) (n + 1) c (tcs T ++ tcells spare)) (h2 : Tens w ao n cap T) (hn : n ≤ 100) :
    Calls Try.prog 17 #[.slice (some ⟨g, 0, none⟩) n c, .slice ao n cap] w fun e w' => e = .returned (.bool true) ∧ Chg Non w w' := by
  have hle := h1.le
  have ht := twin_tens h1 h2.1
  obtain ⟨s0, s1, s2⟩ := twin_spare h1 h2.1
  have hcap := h2.2.2.1
  have hlc := h2.2.1
  obtain ⟨bt, ot, hat, hbt, hct⟩ := ht.2.2.2.2 (by omega)
  cases hat
  have HT := Lib.hid hct; have H2 := Lib.hid h2
  unfold maxLen at hcap hle
  have hb : (((n : Nat) : Int) != (n : Int)) = false := by simp
  have hb2 : decide ((c : Int) ≤ (n : Int)) = false := by simp; omega
  clear h1 h2 ht hct
  simp only [spare] at s0 s1 s2
  go_enter Try.func17, Try.ntmps17
  go_wp2_with fail
  go_loopw [5] (fun i wr => ∃ k : Nat, k ≤ n ∧ i = .int .i64 k ∧ ∃ q, wr = w.drewN q) (fun i _ => n - (intOf i).toNat)
  case atStart => exact ⟨0, by omega, rfl, 0, rfl⟩
  case round =>
    obtain ⟨k, hk, rfl, q, rfl⟩ := hrel
    by_cases hlt : k < n
    · obtain ⟨b, off, rfl, hbb, hcell⟩ := H2.out.2.2.2.2 (by omega)
      obtain ⟨c0, c1, c2⟩ := hcell k hlt
      obtain ⟨d0, d1, d2⟩ := HT.out k hlt
      simp only [Nat.zero_add] at d0 d1 d2
      have k0 : (0 : Int) ≤ (k : Int) := by omega
      have k1 : (k : Int) < (n : Int) := by omega
      clear hcell
      go_wp2_with fail
      go_quiet (fail)
      go_wp2_with fail
      go_roundw
      case rel => exact ⟨k + 1, by omega, by go_num, _, rfl⟩
      case measure => simp [intOf]; omega
    · have hkn : k = n := by omega
      have HK := Lib.hid hkn; clear hkn
      obtain ⟨wq, hwq⟩ : ∃ wq, wq = w.drewN q := ⟨_, rfl⟩
      have t0 : wq.cell? ⟨g, n * 3, none⟩ = some (.string { data := #[115, 112, 97, 114, 101] }) := (by rw [hwq]; exact s0)
      have t1 : wq.cell? ⟨g, n * 3 + 1, none⟩ = some (.string { data := #[] }) := (by rw [hwq]; exact s1)
      have t2 : wq.cell? ⟨g, n * 3 + 2, none⟩ = some (.int .i64 0) := (by rw [hwq]; exact s2)
      have hcq : Chg Non w wq := by rw [hwq]; exact (Chg.refl _ _).drewN q
      have HCQ := Lib.hid hcq
      rw [← hwq]
      clear hwq hcq s0 s1 s2
      go_wp2_with fail
      go_ret
      exact ⟨rfl, HCQ.out.alloc _⟩
end Go.Proofs.Ytdiabilcamomcaa
