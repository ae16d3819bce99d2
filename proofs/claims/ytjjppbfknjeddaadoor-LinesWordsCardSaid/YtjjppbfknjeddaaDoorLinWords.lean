/- Words: its contract. -/
import Derived.Test.YtjjppbfknjeddaaDoorWordsP
import Derived.Test.YtjjppbfknjeddaaDoorLinSame
import Derived.Shelf.Strings.FieldsFuncAny
namespace Go.Proofs
open Go.Shelf
def Tryd.lays229_ren : Go.Shelf.Ren := ⟨fun | 229 => 10 | n => n, fun | 9 => 9 | 40 => 45 | 31 => 23 | 152 => 47 | 3 => 3 | 0 => 0 | 4 => 4 | 21 => 21 | 154 => 49 | n => n, fun | n => n⟩
theorem Tryd.lays229 : Go.Proofs.Lays.n229 Tryd.prog Tryd.lays229_ren := {
  mixed := by kernel_rfl
  f229 := Tryd.func10.trans (congrArg some (by kernel_rfl))
  t0 := Tryd.underlying0
  a0 := Tryd.isAgg0
  z0 := Tryd.sizeOf0
  v0 := Tryd.zeroValue0
  t3 := Tryd.underlying3
  a3 := Tryd.isAgg3
  z3 := Tryd.sizeOf3
  v3 := Tryd.zeroValue3
  t4 := Tryd.underlying4
  a4 := Tryd.isAgg4
  z4 := Tryd.sizeOf4
  v4 := Tryd.zeroValue4
  t9 := Tryd.underlying9
  a9 := Tryd.isAgg9
  z9 := Tryd.sizeOf9
  v9 := Tryd.zeroValue9
  t21 := Tryd.underlying21
  a21 := Tryd.isAgg21
  z21 := Tryd.sizeOf21
  v21 := Tryd.zeroValue21
  t31 := Tryd.underlying23
  a31 := Tryd.isAgg23
  z31 := Tryd.sizeOf23
  v31 := Tryd.zeroValue23
  t40 := Tryd.underlying45
  a40 := Tryd.isAgg45
  z40 := Tryd.sizeOf45
  v40 := Tryd.zeroValue45
  t152 := Tryd.underlying47
  a152 := Tryd.isAgg47
  z152 := Tryd.sizeOf47
  v152 := Tryd.zeroValue47
  t154 := Tryd.underlying49
  a154 := Tryd.isAgg49
  z154 := Tryd.sizeOf49
  v154 := Tryd.zeroValue49 }
end Go.Proofs
namespace Go.Proofs.YtjjppbfknjeddaaDoor
open Go.RowKit Go.Shelf
set_option linter.unusedVariables false
set_option linter.unusedSimpArgs false
attribute [local go_sem ↓] Go.wp_at_zero Go.wp_at_succ
theorem blank_any (x : Nat) (w : World) : Calls Tryd.prog 11 #[.int .i32 (x : Int)] w fun e w' => e = .returned (.bool (blankR x)) ∧ w = w' := by
  unfold blankR
  by_cases h1 : x = 32
  · subst h1
    go_enter Tryd.func11, Tryd.ntmps11
    go_wp2
    go_ret
    exact ⟨rfl, rfl⟩
  · by_cases h2 : x = 9
    · subst h2
      go_enter Tryd.func11, Tryd.ntmps11
      go_wp2
      go_ret
      exact ⟨rfl, rfl⟩
    · rw [decide_eq_false h1, decide_eq_false h2]
      have b1 : ((x : Int) == 32) = false := by rw [beq_eq_false_iff_ne]; omega
      have b2 : ((x : Int) == 9) = false := by rw [beq_eq_false_iff_ne]; omega
      go_enter Tryd.func11, Tryd.ntmps11
      go_wp2
      go_ret
      exact ⟨rfl, rfl⟩
theorem Own.of_ownsRow {w : World} {B : Nat} {e : TypeId} {sz n : Nat} {ao : Option Addr} {cap : Nat} {xs : List Value} (h : w.ownsRow B e sz (.slice ao n cap) n xs) : Own w B e sz ao n cap xs := by
  rcases h with ⟨h1, ⟨h2, h3⟩ | ⟨g, cp, cur, h2, h3, h4, h5, h6, h7, h8⟩⟩
  · cases h2
    exact ⟨h1, Nat.le_refl _, Nat.zero_le _, fun _ => rfl, fun a ha => by cases ha⟩
  · cases h2
    exact ⟨h1, h5, h6, (fun h => by cases h), fun a ha => (by cases ha; exact ⟨g, cur, rfl, h3, h4, by omega, h8⟩)⟩
theorem Words_any (l : List UInt8) (hl : l.length ≤ 1000000000) (w : World) : Calls Tryd.prog 5 #[.string ⟨l.toArray⟩] w fun e w' => ∃ A, e = .returned (.slice (some ⟨A, 0, none⟩) (words l).length (words l).length) ∧
    Own w' w.heap.size 9 1 (some ⟨A, 0, none⟩) (words l).length (words l).length ((words l).map tv) ∧ Chg Non w w' := by
  have hp : PredAtRunes Tryd.prog 11 #[] blankR w := fun W x _ _ => by
    refine Calls.mono (blank_any x W) ?_
    rintro e w' ⟨rfl, rfl⟩
    exact ⟨rfl, 0, rfl⟩
  have h := Any.strings_FieldsFunc_runes Tryd.lays229 11 #[] (enters_of Tryd.func11 (by kernel_rfl) rfl) blankR ⟨l.toArray⟩ w (by rw [sizeL]; omega) hp (by kernel_rfl) (by kernel_rfl)
  rw [words_eq, List.length_map, List.map_map] at h
  have HF := Lib.hid h
  clear h hp
  go_enter Tryd.func5, Tryd.ntmps5
  go_wp2_with (go_at_call 10; refine Calls.mono HF.out ?_; rintro e w1 ⟨A, rfl, hA, ho, hb⟩; have HO := Lib.hid (Own.of_ownsRow ho); have HB := Lib.hid hb; clear ho hb)
  go_ret
  exact ⟨A, rfl, HO.out, Chg.of_below HB.out⟩
end Go.Proofs.YtjjppbfknjeddaaDoor
