/- Whether acts on a disk are too many; a disk that is not there. -/
import Derived.Test.YtbmopcmhokpchaaGreatDoorRefDisk
import Derived.Test.YtbmopcmhokpchaaGreatDoorOpenActs2
namespace Go.Proofs.YtbmopcmhokpchaaGreatDoor
open Go.RowKit
set_option linter.unusedVariables false
set_option linter.unusedSimpArgs false
attribute [local go_sem ↓] Go.wp_at_zero Go.wp_at_succ
theorem Sure_nil {w : World} :
    Calls Tryz.prog 19 #[.pointer none] w fun e w' => e = .returned (.int .i64 0) ∧ w = w' := by
  go_enter Tryz.func19, Tryz.ntmps19
  go_wp2_with (go_at_call 73; refine (there_nil).mono ?_; rintro e w' ⟨rfl, rfl⟩)
  go_ret
  exact ⟨rfl, rfl⟩
/-- The bytes of the first k acts are at most so many. -/
def NB (w : World) (ao : Option Addr) (k s : Nat) : Prop := ∀ i, i < k → ∀ b off, ao = some ⟨b, off, none⟩ → ∀ a n c, w.cell? ⟨b, off + i * 3 + 1, none⟩ = some (.slice a n c) → n ≤ s
theorem NB.snoc {w : World} {b off k s s' n : Nat} {a : Option Addr} {c : Nat} (h : NB w (some ⟨b, off, none⟩) k s) (h1 : w.cell? ⟨b, off + k * 3 + 1, none⟩ = some (.slice a n c)) (hs : s ≤ s') (hn : n ≤ s') : NB w (some ⟨b, off, none⟩) (k + 1) s' := by
  intro i hi b' off' e a' n' c' hc
  cases e
  by_cases hk : i = k
  · subst hk
    rw [h1] at hc
    simp only [Option.some.injEq, Value.slice.injEq] at hc
    omega
  · have := h i (by omega) _ _ rfl _ _ _ hc
    omega
set_option maxHeartbeats 400000 in
set_option maxRecDepth 20000 in
theorem great19_far {w : World} {ao : Option Addr} {len cap : Nat} (h : Acts w ao len cap) (hl : 200 < len) :
    Calls Tryz.prog 20 #[.slice ao len cap] w fun e w' => e = .returned (.bool true) ∧ w = w' := by
  have le := h.1
  have hm := h.2.1
  unfold maxLen at hm
  have hl2 : (200 : Int) < (len : Int) := by omega
  have H := Lib.hid h.2.2; clear h
  go_enter Tryz.func20, Tryz.ntmps20
  go_wp2
  go_loop [4, 3] (fun i n => ∃ (k : Nat) (z : Int), k ≤ len ∧ i = .int .i64 k ∧ n = .int .i64 z) (fun i _ => len - (intOf i).toNat)
  case atStart => exact ⟨0, 0, by omega, rfl, rfl⟩
  case round =>
    obtain ⟨k, z, hk, rfl, rfl⟩ := hrel
    by_cases hlt : k < len
    · obtain ⟨b, off, rfl, hb, hA⟩ := H.out (by omega)
      obtain ⟨kd, z1, a, n, c, bb, bs, h0, _, _, h1, h2, _, hr, _⟩ := hA k hlt
      clear hA h0 h2
      have hr1 := hr.2.1
      have hr2 := hr.2.2.1
      unfold maxLen at hr2
      clear hr
      go_wp2
      go_round
      case rel => exact ⟨k + 1, _, by omega, by go_num, rfl⟩
      case measure => simp [intOf]; omega
    · go_wp2
      all_goals go_ret
      all_goals exact ⟨rfl, rfl⟩
def GreatE (w : World) (ao : Option Addr) (len : Nat) (e : Ending) (w' : World) : Prop := ∃ b, e = .returned (.bool b) ∧ w = w' ∧ (b = false → NB w ao len 20000)
set_option maxHeartbeats 400000 in
set_option maxRecDepth 20000 in
theorem great19_near {w : World} {ao : Option Addr} {len cap : Nat} (h : Acts w ao len cap) (hl : len ≤ 200) :
    Calls Tryz.prog 20 #[.slice ao len cap] w fun e w' => GreatE w ao len e w' := by
  have le := h.1
  have hm := h.2.1
  unfold maxLen at hm
  have hl2 : (len : Int) ≤ 200 := by omega
  have H := Lib.hid h.2.2; clear h
  go_enter Tryz.func20, Tryz.ntmps20
  go_wp2
  go_loop [4, 3] (fun i n => ∃ (k s : Nat), k ≤ len ∧ i = .int .i64 k ∧ n = .int .i64 (s : Int) ∧ s ≤ k * 140737488355329 ∧ NB w ao k s) (fun i _ => len - (intOf i).toNat)
  case atStart => exact ⟨0, 0, by omega, rfl, rfl, by omega, fun i hi => by omega⟩
  case round =>
    obtain ⟨k, s, hk, rfl, rfl, hs, hnb⟩ := hrel
    have NBK := Lib.hid hnb
    clear hnb
    by_cases hlt : k < len
    · obtain ⟨b, off, rfl, hb, hA⟩ := H.out (by omega)
      obtain ⟨kd, z1, a, n, c, bb, bs, h0, _, _, h1, h2, _, hr, _, hn⟩ := hA k hlt
      have H1 := Lib.hid h1
      clear hA h0 h2 hr
      unfold reachBytes at hn
      go_wp2
      go_round
      case rel => exact ⟨k + 1, s + 1 + n, by omega, by go_num, by go_num, by omega, NBK.out.snoc H1.out (by omega) (by omega)⟩
      case measure => simp [intOf]; omega
    · obtain rfl : k = len := by omega
      by_cases hbig : 20000 < s
      · have hb2 : (20000 : Int) < (s : Int) := by omega
        go_wp2
        all_goals go_ret
        all_goals exact ⟨_, rfl, rfl, fun h => by cases h⟩
      · have hb2 : ¬ (20000 : Int) < (s : Int) := by omega
        go_wp2
        all_goals go_ret
        all_goals exact ⟨_, rfl, rfl, fun _ i hi b off e a n c hc => by have := NBK.out i hi b off e a n c hc; omega⟩
end Go.Proofs.YtbmopcmhokpchaaGreatDoor
