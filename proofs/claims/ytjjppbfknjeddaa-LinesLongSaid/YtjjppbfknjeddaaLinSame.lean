/- Lists of values of one cell, read; SameTexts, SameBools. -/
import Derived.Test.YtjjppbfknjeddaaTwin
import Derived.Deep.RegionLaw
import Derived.Lib.SliceRun
namespace Go.Proofs.Ytjjppbfknjeddaa
open Go.RowKit
set_option linter.unusedVariables false
set_option linter.unusedSimpArgs false
attribute [local go_sem ↓] Go.wp_at_zero Go.wp_at_succ
/-- The slice '.slice ao n cap' reads as the values vs (one cell each). -/
def RdV (w : World) (b : Nat) (ao : Option Addr) (n cap : Nat) (vs : List Value) : Prop :=
  vs.length = n ∧ n ≤ cap ∧ cap ≤ maxLen ∧ (ao = none → cap = 0) ∧ (0 < cap → ∃ off, ao = some ⟨b, off, none⟩ ∧ ∀ i, i < n → w.cell? ⟨b, off + i, none⟩ = vs[i]?)
theorem RdV.of_Own {w : World} {B : Nat} {e : TypeId} {ao : Option Addr} {n cap : Nat} {vs : List Value} (h : Own w B e 1 ao n cap vs) : ∃ b, (0 < cap → some b = blk ao) ∧ RdV w b ao n cap vs := by
  have h0 := h
  obtain ⟨h1, h2, h3, h4, _⟩ := h
  by_cases hp : 0 < cap
  · obtain ⟨g, rfl, _, _, _, hc, _⟩ := h0.form hp
    refine ⟨g, fun _ => rfl, by simpa using h1, h2, h3, h4, fun _ => ⟨0, rfl, fun i hi => ?_⟩⟩
    rw [Nat.zero_add, hc i (by omega)]
  · exact ⟨0, fun h => absurd h hp, by simpa using h1, h2, h3, h4, fun h => absurd h hp⟩
theorem RdV.same {w w' : World} {b : Nat} {ao : Option Addr} {n cap : Nat} {vs : List Value} (h : RdV w b ao n cap vs) (hb : 0 < n → w'.heap[b]? = w.heap[b]?) : RdV w' b ao n cap vs := by
  obtain ⟨h1, h2, h3, h4, h5⟩ := h
  refine ⟨h1, h2, h3, h4, fun hn => ?_⟩
  obtain ⟨off, ha, hc⟩ := h5 hn
  exact ⟨off, ha, fun i hi => (World.cell?_of_block (w := w) (a := ⟨b, off + i, none⟩) (hb (by omega))).trans (hc i hi)⟩
theorem RdV.of_block {w : World} {g : Nat} {cs : Array Value} {vs : List Value} {e : TypeId} {fr : Nat × Nat} (hg : w.heap[g]? = some (.cells cs e fr)) {n : Nat} (hv : cs = vs.toArray) (hn : vs.length = n) (hm : n ≤ maxLen) : RdV w g (some ⟨g, 0, none⟩) n n vs := by
  subst hv
  refine ⟨hn, Nat.le_refl _, hm, (fun h => by cases h), fun _ => ⟨0, rfl, fun i hi => ?_⟩⟩
  rw [Nat.zero_add, cell_of_row w g i _ e fr hg]
  simp
theorem RdV.drewN {w : World} {b : Nat} {ao : Option Addr} {n cap : Nat} {vs : List Value} (h : RdV w b ao n cap vs) (q : Nat) : RdV (w.drewN q) b ao n cap vs := h
def tv (l : List UInt8) : Value := .string ⟨l.toArray⟩
theorem take_succ_iffG {α : Type} [Inhabited α] {xs bs : List α} {k : Nat} (hl : xs.length = bs.length) (hk : k < xs.length) (d : α) : (xs.take (k + 1) = bs.take (k + 1)) ↔ xs.take k = bs.take k ∧ xs.getD k d = bs.getD k d := by
  have e1 : xs.getD k d = xs[k] := by simp [List.getD, hk]
  have e2 : bs.getD k d = bs[k] := by simp [List.getD, show k < bs.length by omega]
  rw [List.take_succ_eq_append_getElem hk, List.take_succ_eq_append_getElem (l := bs) (by omega), e1, e2]
  constructor
  · intro h
    have := List.append_inj h (by simp; omega)
    exact ⟨this.1, by simpa using this.2⟩
  · rintro ⟨h1, h2⟩
    rw [h1, h2]
set_option maxHeartbeats 400000 in
set_option maxRecDepth 20000 in
theorem SameTexts_any {w : World} {b1 b2 : Nat} {a1 a2 : Option Addr} {n1 c1 n2 c2 : Nat} {xs bs : List (List UInt8)} (h1 : RdV w b1 a1 n1 c1 (xs.map tv)) (h2 : RdV w b2 a2 n2 c2 (bs.map tv)) :
    Calls Try.prog 12 #[.slice a1 n1 c1, .slice a2 n2 c2] w fun e w' => e = .returned (.bool (decide (xs = bs))) ∧ ∃ q, w' = w.drewN q := by
  obtain ⟨l1, le1, m1, z1, r1⟩ := h1
  obtain ⟨l2, le2, m2, z2, r2⟩ := h2
  rw [List.length_map] at l1 l2
  unfold maxLen at m1 m2
  by_cases hn : n1 = n2
  · subst hn
    have Hl : xs.length = bs.length := by omega
    have R1 := Lib.hid r1; clear r1
    have R2 := Lib.hid r2; clear r2
    have L1 := Lib.hid l1; clear l1
    have L2 := Lib.hid l2; clear l2
    have HL := Lib.hid Hl; clear Hl
    clear z1 z2
    go_enter Try.func12, Try.ntmps12
    go_wp2
    go_loopw [5] (fun i wr => ∃ k : Nat, k ≤ n1 ∧ i = .int .i64 (k : Int) ∧ xs.take k = bs.take k ∧ ∃ q, wr = w.drewN q) (fun i _ => n1 - (intOf i).toNat)
    case atStart => exact ⟨0, by omega, rfl, rfl, 0, rfl⟩
    case round =>
      obtain ⟨k, hk, rfl, ht, q, rfl⟩ := hrel
      have HT := Lib.hid ht; clear ht
      by_cases hlt : k < n1
      · obtain ⟨o1, rfl, c1'⟩ := R1.out (by omega)
        obtain ⟨o2, rfl, c2'⟩ := R2.out (by omega)
        have d1 : w.cell? ⟨b1, o1 + k, none⟩ = some (.string ⟨(xs.getD k []).toArray⟩) := by
          rw [c1' k hlt, List.getElem?_map]; simp [List.getD, show k < xs.length by have := L1.out; omega, tv]
        have d2 : w.cell? ⟨b2, o2 + k, none⟩ = some (.string ⟨(bs.getD k []).toArray⟩) := by
          rw [c2' k hlt, List.getElem?_map]; simp [List.getD, show k < bs.length by have := L2.out; omega, tv]
        clear c1' c2'
        have hiff := take_succ_iffG HL.out (show k < xs.length by have := L1.out; omega) []
        generalize xs.getD k [] = x at d1 hiff
        generalize bs.getD k [] = y at d2 hiff
        have HI := Lib.hid hiff; clear hiff
        have k0 : (0 : Int) ≤ (k : Int) := by omega
        have k1 : (k : Int) < (n1 : Int) := by omega
        by_cases e : x = y
        · subst e
          have hbe : (x == x) = true := by simp
          go_wp2
          go_quiet (fail)
          go_wp2
          go_roundw
          case rel => exact ⟨k + 1, by omega, by go_num, HI.out.2 ⟨HT.out, by first | rfl | trivial⟩, _, rfl⟩
          case measure => simp [intOf]; omega
        · have hne : (x == y) = false := by rw [beq_eq_false_iff_ne]; exact e
          have hb : decide (xs = bs) = false := by
            rw [decide_eq_false_iff_not]
            intro h
            exact e (HI.out.1 (by rw [h])).2
          have HB := Lib.hid hb
          clear hb e
          go_wp2
          go_quiet (fail)
          go_wp2
          go_ret
          exact ⟨by rw [HB.out]; rfl, _, World.drewN_drewN _ _ _⟩
      · go_wp2
        go_ret
        have : k = n1 := by omega
        subst this
        refine ⟨?_, q, rfl⟩
        have e := HT.out
        rw [List.take_of_length_le (by have := L1.out; omega), List.take_of_length_le (by have := L2.out; omega)] at e
        simp [e]
  · have hb : (((n1 : Nat) : Int) != (n2 : Int)) = true := by simp; omega
    clear r1 r2 z1 z2
    go_enter Try.func12, Try.ntmps12
    go_wp2
    go_ret
    refine ⟨?_, 0, rfl⟩
    have : xs ≠ bs := fun e => hn (by rw [← l1, ← l2, e])
    simp [this]
set_option maxHeartbeats 400000 in
set_option maxRecDepth 20000 in
theorem SameBools_any {w : World} {b1 b2 : Nat} {a1 a2 : Option Addr} {n1 c1 n2 c2 : Nat} {xs bs : List Bool} (h1 : RdV w b1 a1 n1 c1 (xs.map Value.bool)) (h2 : RdV w b2 a2 n2 c2 (bs.map Value.bool)) :
    Calls Try.prog 13 #[.slice a1 n1 c1, .slice a2 n2 c2] w fun e w' => e = .returned (.bool (decide (xs = bs))) ∧ ∃ q, w' = w.drewN q := by
  obtain ⟨l1, le1, m1, z1, r1⟩ := h1
  obtain ⟨l2, le2, m2, z2, r2⟩ := h2
  rw [List.length_map] at l1 l2
  unfold maxLen at m1 m2
  by_cases hn : n1 = n2
  · subst hn
    have Hl : xs.length = bs.length := by omega
    have R1 := Lib.hid r1; clear r1
    have R2 := Lib.hid r2; clear r2
    have L1 := Lib.hid l1; clear l1
    have L2 := Lib.hid l2; clear l2
    have HL := Lib.hid Hl; clear Hl
    clear z1 z2
    go_enter Try.func13, Try.ntmps13
    go_wp2
    go_loopw [5] (fun i wr => ∃ k : Nat, k ≤ n1 ∧ i = .int .i64 (k : Int) ∧ xs.take k = bs.take k ∧ ∃ q, wr = w.drewN q) (fun i _ => n1 - (intOf i).toNat)
    case atStart => exact ⟨0, by omega, rfl, rfl, 0, rfl⟩
    case round =>
      obtain ⟨k, hk, rfl, ht, q, rfl⟩ := hrel
      have HT := Lib.hid ht; clear ht
      by_cases hlt : k < n1
      · obtain ⟨o1, rfl, c1'⟩ := R1.out (by omega)
        obtain ⟨o2, rfl, c2'⟩ := R2.out (by omega)
        have d1 : w.cell? ⟨b1, o1 + k, none⟩ = some (.bool (xs.getD k false)) := by
          rw [c1' k hlt, List.getElem?_map]; simp [List.getD, show k < xs.length by have := L1.out; omega]
        have d2 : w.cell? ⟨b2, o2 + k, none⟩ = some (.bool (bs.getD k false)) := by
          rw [c2' k hlt, List.getElem?_map]; simp [List.getD, show k < bs.length by have := L2.out; omega]
        clear c1' c2'
        have hiff := take_succ_iffG HL.out (show k < xs.length by have := L1.out; omega) false
        generalize xs.getD k false = x at d1 hiff
        generalize bs.getD k false = y at d2 hiff
        have HI := Lib.hid hiff; clear hiff
        have k0 : (0 : Int) ≤ (k : Int) := by omega
        have k1 : (k : Int) < (n1 : Int) := by omega
        by_cases e : x = y
        · subst e
          have hbe : (x != x) = false := by simp
          go_wp2
          go_quiet (fail)
          go_wp2
          go_roundw
          case rel => exact ⟨k + 1, by omega, by go_num, HI.out.2 ⟨HT.out, by first | rfl | trivial⟩, _, rfl⟩
          case measure => simp [intOf]; omega
        · have hne : (x != y) = true := by simp [bne, e]
          have hne2 : (x == y) = false := by simp [e]
          have hb : decide (xs = bs) = false := by
            rw [decide_eq_false_iff_not]
            intro h
            exact e (HI.out.1 (by rw [h])).2
          have HB := Lib.hid hb
          clear hb e
          go_wp2
          go_quiet (fail)
          go_wp2
          go_ret
          exact ⟨by rw [HB.out]; rfl, _, World.drewN_drewN _ _ _⟩
      · go_wp2
        go_ret
        have : k = n1 := by omega
        subst this
        refine ⟨?_, q, rfl⟩
        have e := HT.out
        rw [List.take_of_length_le (by have := L1.out; omega), List.take_of_length_le (by have := L2.out; omega)] at e
        simp [e]
  · have hb : (((n1 : Nat) : Int) != (n2 : Int)) = true := by simp; omega
    clear r1 r2 z1 z2
    go_enter Try.func13, Try.ntmps13
    go_wp2
    go_ret
    refine ⟨?_, 0, rfl⟩
    have : xs ≠ bs := fun e => hn (by rw [← l1, ← l2, e])
    simp [this]
end Go.Proofs.Ytjjppbfknjeddaa
