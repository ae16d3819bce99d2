/- Words: its contract. -/
import Derived.Test.YtjjppbfknjeddaaWordsP
import Derived.Test.YtjjppbfknjeddaaLinSame
import Derived.Shelf.Strings.FieldsFuncAny
namespace Go.Proofs
open Go.Shelf
def Try.lays229_ren : Go.Shelf.Ren := ⟨fun | 229 => 19 | n => n, fun | 9 => 9 | 40 => 57 | 31 => 27 | 152 => 61 | 3 => 3 | 0 => 0 | 4 => 4 | 21 => 21 | 154 => 63 | n => n, fun | n => n⟩
theorem Try.lays229 : Go.Proofs.Lays.n229 Try.prog Try.lays229_ren := {
  mixed := by kernel_rfl
  f229 := Try.func19.trans (congrArg some (by kernel_rfl))
  t0 := Try.underlying0
  a0 := Try.isAgg0
  z0 := Try.sizeOf0
  v0 := Try.zeroValue0
  t3 := Try.underlying3
  a3 := Try.isAgg3
  z3 := Try.sizeOf3
  v3 := Try.zeroValue3
  t4 := Try.underlying4
  a4 := Try.isAgg4
  z4 := Try.sizeOf4
  v4 := Try.zeroValue4
  t9 := Try.underlying9
  a9 := Try.isAgg9
  z9 := Try.sizeOf9
  v9 := Try.zeroValue9
  t21 := Try.underlying21
  a21 := Try.isAgg21
  z21 := Try.sizeOf21
  v21 := Try.zeroValue21
  t31 := Try.underlying27
  a31 := Try.isAgg27
  z31 := Try.sizeOf27
  v31 := Try.zeroValue27
  t40 := Try.underlying57
  a40 := Try.isAgg57
  z40 := Try.sizeOf57
  v40 := Try.zeroValue57
  t152 := Try.underlying61
  a152 := Try.isAgg61
  z152 := Try.sizeOf61
  v152 := Try.zeroValue61
  t154 := Try.underlying63
  a154 := Try.isAgg63
  z154 := Try.sizeOf63
  v154 := Try.zeroValue63 }
end Go.Proofs
namespace Go.Proofs.Ytjjppbfknjeddaa
open Go.RowKit Go.Shelf
set_option linter.unusedVariables false
set_option linter.unusedSimpArgs false
attribute [local go_sem ↓] Go.wp_at_zero Go.wp_at_succ
theorem blank_any (x : Nat) (w : World) : Calls Try.prog 20 #[.int .i32 (x : Int)] w fun e w' => e = .returned (.bool (blankR x)) ∧ w = w' := by
  unfold blankR
  by_cases h1 : x = 32
  · subst h1
    go_enter Try.func20, Try.ntmps20
    go_wp2
    go_ret
    exact ⟨rfl, rfl⟩
  · by_cases h2 : x = 9
    · subst h2
      go_enter Try.func20, Try.ntmps20
      go_wp2
      go_ret
      exact ⟨rfl, rfl⟩
    · rw [decide_eq_false h1, decide_eq_false h2]
      have b1 : ((x : Int) == 32) = false := by rw [beq_eq_false_iff_ne]; omega
      have b2 : ((x : Int) == 9) = false := by rw [beq_eq_false_iff_ne]; omega
      go_enter Try.func20, Try.ntmps20
      go_wp2
      go_ret
      exact ⟨rfl, rfl⟩
theorem Own.of_ownsRow {w : World} {B : Nat} {e : TypeId} {sz n : Nat} {ao : Option Addr} {cap : Nat} {xs : List Value} (h : w.ownsRow B e sz (.slice ao n cap) n xs) : Own w B e sz ao n cap xs := by
  rcases h with ⟨h1, ⟨h2, h3⟩ | ⟨g, cp, cur, h2, h3, h4, h5, h6, h7, h8⟩⟩
  · cases h2
    exact ⟨h1, Nat.le_refl _, Nat.zero_le _, fun _ => rfl, fun a ha => by cases ha⟩
  · cases h2
    exact ⟨h1, h5, h6, (fun h => by cases h), fun a ha => (by cases ha; exact ⟨g, cur, rfl, h3, h4, by omega, h8⟩)⟩
theorem Words_any (l : List UInt8) (hl : l.length ≤ 1000000000) (w : World) : Calls Try.prog 15 #[.string ⟨l.toArray⟩] w fun e w' => ∃ A, e = .returned (.slice (some ⟨A, 0, none⟩) (words l).length (words l).length) ∧
    Own w' w.heap.size 9 1 (some ⟨A, 0, none⟩) (words l).length (words l).length ((words l).map tv) ∧ Chg Non w w' := by
  have hp : PredAtRunes Try.prog 20 #[] blankR w := fun W x _ _ => by
    refine Calls.mono (blank_any x W) ?_
    rintro e w' ⟨rfl, rfl⟩
    exact ⟨rfl, 0, rfl⟩
  have h := Any.strings_FieldsFunc_runes Try.lays229 20 #[] (enters_of Try.func20 (by kernel_rfl) rfl) blankR ⟨l.toArray⟩ w (by rw [sizeL]; omega) hp (by kernel_rfl) (by kernel_rfl)
  rw [words_eq, List.length_map, List.map_map] at h
  have HF := Lib.hid h
  clear h hp
  go_enter Try.func15, Try.ntmps15
  go_wp2_with (go_at_call 19; refine Calls.mono HF.out ?_; rintro e w1 ⟨A, rfl, hA, ho, hb⟩; have HO := Lib.hid (Own.of_ownsRow ho); have HB := Lib.hid hb; clear ho hb)
  go_ret
  exact ⟨A, rfl, HO.out, Chg.of_below HB.out⟩
end Go.Proofs.Ytjjppbfknjeddaa
