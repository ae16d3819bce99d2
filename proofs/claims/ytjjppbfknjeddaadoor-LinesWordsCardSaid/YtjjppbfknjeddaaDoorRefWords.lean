/- The document's words: walked. -/
import Derived.Test.YtjjppbfknjeddaaDoorLinWords
namespace Go.Proofs.YtjjppbfknjeddaaDoor
open Go.RowKit
set_option linter.unusedVariables false
set_option linter.unusedSimpArgs false
attribute [local go_sem ↓] Go.wp_at_zero Go.wp_at_succ
theorem Tryd.info_str : (Tryd.prog.info? 9).map (fun i => (i.zero, i.size, i.bytes)) = some (some (.string ⟨#[]⟩), 1, 16) := by kernel_rfl
/-- Of the bytes from 'from' on, i of which have been looked at: the words so far and those to come. -/
def WordsAt (l : List UInt8) (acc : List (List UInt8)) (fr i : Nat) : Prop :=
  (i ≤ l.length ∧ fr ≤ i ∧ acc ++ wordsGo ((l.drop fr).take (i - fr)) (l.drop i) = words l) ∨ (i = l.length + 1 ∧ acc = words l)
theorem WordsAt.start (l : List UInt8) : WordsAt l [] 0 0 := .inl ⟨Nat.zero_le _, Nat.le_refl _, by simp [words]⟩
theorem WordsAt.go {l : List UInt8} {acc : List (List UInt8)} {fr i : Nat} (h : WordsAt l acc fr i) (hi : i < l.length) (hc : blankB (l.getD i 0) = false) : WordsAt l acc fr (i + 1) := by
  rcases h with ⟨h1, h2, h3⟩ | ⟨h1, _⟩
  · refine .inl ⟨by omega, by omega, ?_⟩
    rw [← h3]
    have e : l.drop i = l.getD i 0 :: l.drop (i + 1) := by rw [List.drop_eq_getElem_cons hi]; simp [List.getD, hi]
    rw [e, wordsGo, if_neg (by rw [hc]; simp)]
    congr 1
    have e2 : (l.drop fr).take (i + 1 - fr) = (l.drop fr).take (i - fr) ++ [l.getD i 0] := by
      rw [show i + 1 - fr = (i - fr) + 1 by omega, List.take_add_one, List.getElem?_drop, show fr + (i - fr) = i by omega]
      simp [List.getD, hi]
    rw [e2]
  · omega
theorem WordsAt.cut {l : List UInt8} {acc : List (List UInt8)} {fr i : Nat} (h : WordsAt l acc fr i) (hi : i ≤ l.length) (hc : i < l.length → blankB (l.getD i 0) = true) : fr ≤ i ∧ WordsAt l (if fr < i then acc ++ [(l.drop fr).take (i - fr)] else acc) (i + 1) (i + 1) := by
  rcases h with ⟨h1, h2, h3⟩ | ⟨h1, _⟩
  · refine ⟨h2, ?_⟩
    have hcur : (l.drop fr).take (i - fr) = [] ↔ ¬ fr < i := by
      rw [← List.length_eq_zero_iff, List.length_take, List.length_drop]; omega
    by_cases hl : i < l.length
    · have e : l.drop i = l.getD i 0 :: l.drop (i + 1) := by rw [List.drop_eq_getElem_cons hl]; simp [List.getD, hl]
      rw [e, wordsGo, if_pos (hc hl)] at h3
      refine .inl ⟨by omega, Nat.le_refl _, ?_⟩
      rw [Nat.sub_self, List.take_zero]
      by_cases hf : fr < i
      · rw [if_pos hf, ← h3, if_neg (fun e => hcur.1 e hf)]; simp
      · rw [if_neg hf, ← h3, if_pos (hcur.2 hf)]
    · obtain rfl : i = l.length := by omega
      rw [List.drop_length, wordsGo] at h3
      refine .inr ⟨rfl, ?_⟩
      by_cases hf : fr < l.length
      · rw [if_pos hf, ← h3, if_neg (fun e => hcur.1 e hf)]
      · rw [if_neg hf, ← h3, if_pos (hcur.2 hf)]; simp
  · omega
theorem WordsAt.end_ {l : List UInt8} {acc : List (List UInt8)} {fr i : Nat} (h : WordsAt l acc fr i) (hi : l.length < i) : acc = words l := by
  rcases h with ⟨h1, _⟩ | ⟨_, h2⟩
  · omega
  · exact h2
set_option maxRecDepth 40000 in
set_option maxHeartbeats 2000000 in
theorem refWords_any (l : List UInt8) (hl : l.length ≤ 1048576) (w : World) : Calls Tryd.prog 7 #[.string ⟨l.toArray⟩] w fun e w' => ∃ oa oc, e = .returned (.slice oa (words l).length oc) ∧ Own w' w.heap.size 9 1 oa (words l).length oc ((words l).map tv) ∧ Chg Non w w' := by
  obtain ⟨i0, hi, hz0, hz1, hz2⟩ := info_parts Tryd.info_str
  have Hi := Lib.hid hi; have Hz0 := Lib.hid hz0; have Hz1 := Lib.hid hz1; have Hz2 := Lib.hid hz2
  clear hi hz0 hz1 hz2
  obtain ⟨n, hn⟩ : ∃ n, l.length = n := ⟨_, rfl⟩
  have HN := Lib.hid hn
  rw [hn] at hl
  obtain ⟨S, hS⟩ : ∃ S : ByteArray, (⟨l.toArray⟩ : ByteArray) = S := ⟨_, rfl⟩
  have hsz : S.size = n := by rw [← hS, sizeL]; exact hn
  have HS := Lib.hid hS
  rw [hS]
  clear hS hn
  go_enter Tryd.func7, Tryd.ntmps7
  go_wp2_with fail
  go_loopw [3, 4, 5] (fun sl fr s5 wr => ∃ (i f m : Nat) (oa : Option Addr) (oc : Nat) (acc : List (List UInt8)), i ≤ n + 1 ∧ f ≤ n + 1 ∧ sl = .slice oa m oc ∧ fr = .int .i64 (f : Int) ∧ s5 = .int .i64 (i : Int) ∧ acc.length = m ∧ m ≤ i ∧ WordsAt l acc f i ∧ Own wr w.heap.size 9 1 oa m oc (acc.map tv) ∧ Chg Non w wr) (fun _ _ i _ => n + 1 - (intOf i).toNat)
  case atStart => exact ⟨0, 0, 0, none, 0, [], by omega, by omega, rfl, rfl, rfl, rfl, by omega, WordsAt.start l, Own.nil _ _ _ _, Chg.refl _ _⟩
  case round =>
    obtain ⟨i, f, m, oa, oc, acc, hi, hf, rfl, rfl, rfl, hm, hmi, hW, hO, hC⟩ := hrel
    have HW := Lib.hid hW; have OW := Lib.hid hO; have CW := Lib.hid hC; have HM := Lib.hid hm
    clear hW hO hC hm
    have hcases : (i < n ∧ ¬ blankB (l.getD i 0) = true) ∨ (i ≤ n ∧ (i < n → blankB (l.getD i 0) = true)) ∨ n < i := by
      by_cases h1 : i < n
      · by_cases h2 : blankB (l.getD i 0) = true
        · exact .inr (.inl ⟨by omega, fun _ => h2⟩)
        · exact .inl ⟨h1, h2⟩
      · by_cases h2 : i ≤ n
        · exact .inr (.inl ⟨h2, fun h => absurd h h1⟩)
        · exact .inr (.inr (by omega))
    have GET : ∀ (h : i < S.size), getElem S i h = l.getD i 0 := fun h => by
      have h2 : i < l.length := by have := HN.out; omega
      have hk : ∀ (T : ByteArray) (_ : (⟨l.toArray⟩ : ByteArray) = T) (h : i < T.size), getElem T i h = l.getD i 0 := by
        rintro _ rfl h
        show (getElem l.toArray i _) = _
        simp [List.getD, h2]
      exact hk S HS.out h
    have HG := Lib.hid GET
    clear GET
    rcases hcases with ⟨h1, hb⟩ | ⟨h1, hb⟩ | h1
    · have h2 : i < S.size := by omega
      obtain ⟨c, hc⟩ : ∃ c, l.getD i 0 = c := ⟨_, rfl⟩
      have hg : getElem S i h2 = c := (HG.out h2).trans hc
      rw [hc] at hb
      have hb2 : ((c.toNat : Int) != 32) = true := by rw [bne_iff_ne]; intro e; exact hb (by unfold blankB; simp; omega)
      have hb3 : ((c.toNat : Int) != 9) = true := by rw [bne_iff_ne]; intro e; exact hb (by unfold blankB; simp; omega)
      have NW : Hid (WordsAt l acc f (i + 1)) := Lib.hid (HW.out.go (by have := HN.out; omega) (by rw [hc]; simpa using hb))
      clear hb hc
      have i0' : (0 : Int) ≤ (i : Int) := by omega
      have i1' : (i : Int) < (n : Int) := by omega
      go_wp2_with fail
      go_roundw
      case rel => exact ⟨i + 1, f, m, oa, oc, acc, by omega, hf, rfl, rfl, by go_num, HM.out, by omega, NW.out, OW.out, CW.out⟩
      case measure => simp [intOf]; omega
    · obtain ⟨hfi, hcut⟩ := HW.out.cut (by have := HN.out; omega) (fun h => hb (by have := HN.out; omega))
      by_cases hlt : f < i
      · rw [if_pos hlt] at hcut
        have NW := Lib.hid hcut
        obtain ⟨Z, hZ⟩ : ∃ Z, S.extract f i = Z := ⟨_, rfl⟩
        have HZ : Hid (Value.string Z = tv ((l.drop f).take (i - f))) := Lib.hid (by
          rw [← hZ, ← HS.out]
          unfold tv
          congr 1
          apply ByteArray.ext
          rw [ByteArray.data_extract]
          simp [List.extract])
        have f0 : (0 : Int) ≤ (f : Int) := by omega
        have f1 : (f : Int) ≤ (i : Int) := by omega
        have f2 : (i : Int) ≤ (n : Int) := by omega
        have f3 : (f : Int) < (i : Int) := by omega
        have hms : m ≤ 1048576 := by omega
        clear hcut
        by_cases hin : i < n
        · have h2 : i < S.size := by omega
          obtain ⟨c, hc⟩ : ∃ c, l.getD i 0 = c := ⟨_, rfl⟩
          have hg : getElem S i h2 = c := (HG.out h2).trans hc
          have hbl := hb hin
          rw [hc] at hbl
          have hb2 : ((c.toNat : Int) != 32) = false ∨ (((c.toNat : Int) != 32) = true ∧ ((c.toNat : Int) != 9) = false) := by
            unfold blankB at hbl
            simp at hbl
            by_cases e : c.toNat = 32
            · left; rw [bne_eq_false_iff_eq]; omega
            · right; rw [bne_iff_ne, bne_eq_false_iff_eq]; omega
          clear hb hbl hc
          have i1' : (i : Int) < (n : Int) := by omega
          rcases hb2 with hb2 | ⟨hb2, hb3⟩
          all_goals
            go_wp2_with (at_builtin; refine wpList_append_Own rfl _ _ 23 23 rfl w.heap.size 9 1 16 i0 (.string ⟨#[]⟩) Tryd.underlying23 Hi.out Hz0.out Hz1.out rfl Hz2.out oa m oc (acc.map tv) rfl (OW.out.alloc _) _ 1 _ rfl (Src.cells Tryd.underlying23 (heap_alloc_new _ _) 1 1 1 (by rfl) (by simp [Value.oneCell'])) (by unfold maxLen; omega) (by omega) (by have := CW.out.size; simp <;> omega) ?_; intro oa6 oc6 w6 hown hchg hb _; have O6 : Hid (Own w6 w.heap.size 9 1 oa6 (m + 1) oc6 ((acc ++ [(l.drop f).take (i - f)]).map tv)) := Lib.hid (by rw [List.map_append, List.map_cons, List.map_nil, ← HZ.out]; simpa using hown); have C6 : Hid (Chg Non w w6) := Lib.hid ((CW.out.alloc _).next hchg (fun k hk e => by have := (OW.out.lt k e.1).1; omega)); clear hown hchg hb)
            go_roundw
            case rel => exact ⟨i + 1, i + 1, m + 1, oa6, oc6, _, by omega, by omega, rfl, by go_num, by go_num, by rw [List.length_append, HM.out]; rfl, by omega, NW.out, O6.out, C6.out⟩
            case measure => simp [intOf]; omega
        · have i1' : ¬ (i : Int) < (n : Int) := by omega
          clear hb
          go_wp2_with (at_builtin; refine wpList_append_Own rfl _ _ 23 23 rfl w.heap.size 9 1 16 i0 (.string ⟨#[]⟩) Tryd.underlying23 Hi.out Hz0.out Hz1.out rfl Hz2.out oa m oc (acc.map tv) rfl (OW.out.alloc _) _ 1 _ rfl (Src.cells Tryd.underlying23 (heap_alloc_new _ _) 1 1 1 (by rfl) (by simp [Value.oneCell'])) (by unfold maxLen; omega) (by omega) (by have := CW.out.size; simp <;> omega) ?_; intro oa6 oc6 w6 hown hchg hb _; have O6 : Hid (Own w6 w.heap.size 9 1 oa6 (m + 1) oc6 ((acc ++ [(l.drop f).take (i - f)]).map tv)) := Lib.hid (by rw [List.map_append, List.map_cons, List.map_nil, ← HZ.out]; simpa using hown); have C6 : Hid (Chg Non w w6) := Lib.hid ((CW.out.alloc _).next hchg (fun k hk e => by have := (OW.out.lt k e.1).1; omega)); clear hown hchg hb)
          go_roundw
          case rel => exact ⟨i + 1, i + 1, m + 1, oa6, oc6, _, by omega, by omega, rfl, by go_num, by go_num, by rw [List.length_append, HM.out]; rfl, by omega, NW.out, O6.out, C6.out⟩
          case measure => simp [intOf]; omega
      · rw [if_neg hlt] at hcut
        have NW := Lib.hid hcut
        have f3 : ¬ (f : Int) < (i : Int) := by omega
        clear hcut
        by_cases hin : i < n
        · have h2 : i < S.size := by omega
          obtain ⟨c, hc⟩ : ∃ c, l.getD i 0 = c := ⟨_, rfl⟩
          have hg : getElem S i h2 = c := (HG.out h2).trans hc
          have hbl := hb hin
          rw [hc] at hbl
          have hb2 : ((c.toNat : Int) != 32) = false ∨ (((c.toNat : Int) != 32) = true ∧ ((c.toNat : Int) != 9) = false) := by
            unfold blankB at hbl
            simp at hbl
            by_cases e : c.toNat = 32
            · left; rw [bne_eq_false_iff_eq]; omega
            · right; rw [bne_iff_ne, bne_eq_false_iff_eq]; omega
          clear hb hbl hc
          have i0' : (0 : Int) ≤ (i : Int) := by omega
          have i1' : (i : Int) < (n : Int) := by omega
          rcases hb2 with hb2 | ⟨hb2, hb3⟩
          all_goals
            go_wp2_with fail
            go_roundw
            case rel => exact ⟨i + 1, i + 1, m, oa, oc, acc, by omega, by omega, rfl, by go_num, by go_num, HM.out, by omega, NW.out, OW.out, CW.out⟩
            case measure => simp [intOf]; omega
        · have i1' : ¬ (i : Int) < (n : Int) := by omega
          clear hb
          go_wp2_with fail
          go_roundw
          case rel => exact ⟨i + 1, i + 1, m, oa, oc, acc, by omega, by omega, rfl, by go_num, by go_num, HM.out, by omega, NW.out, OW.out, CW.out⟩
          case measure => simp [intOf]; omega
    · have h2 : ¬ (i : Int) ≤ (n : Int) := by omega
      have e := HW.out.end_ (by have := HN.out; omega)
      subst e
      go_wp2_with fail
      go_ret
      rw [← HM.out]
      exact ⟨oa, oc, rfl, by rw [HM.out]; exact OW.out, CW.out⟩
end Go.Proofs.YtjjppbfknjeddaaDoor
