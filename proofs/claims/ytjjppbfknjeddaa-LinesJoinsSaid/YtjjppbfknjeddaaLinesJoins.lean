/- LinesJoins, walked. -/
import Derived.Test.YtjjppbfknjeddaaLinesPieces
namespace Go.Proofs.Ytjjppbfknjeddaa
open Go.RowKit Go.Shelf
set_option linter.unusedVariables false
set_option linter.unusedSimpArgs false
attribute [local go_sem ↓] Go.wp_at_zero Go.wp_at_succ
theorem words_at_blank {c : UInt8} (hc : blankB c = true) : ∀ (a cur r : List UInt8), wordsGo cur (a ++ c :: r) = wordsGo cur a ++ wordsGo [] r
  | [], cur, r => by
    by_cases h : cur = []
    · simp [wordsGo, hc, h]
    · simp [wordsGo, hc, h]
  | x :: a, cur, r => by
    by_cases hx : blankB x = true
    · by_cases h : cur = []
      · simp [wordsGo, hx, h, words_at_blank hc a]
      · simp [wordsGo, hx, h, words_at_blank hc a]
    · simp [wordsGo, hx, words_at_blank hc a]
/-- Blanks between two texts. -/
theorem words_join {bl : List UInt8} (hb : bl ≠ []) (h : ∀ c ∈ bl, blankB c = true) (u v : List UInt8) : words (u ++ bl ++ v) = words u ++ words v := by
  induction bl with
  | nil => exact absurd rfl hb
  | cons c t ih =>
    unfold words at *
    rw [List.append_assoc, List.cons_append, words_at_blank (h c (by simp))]
    congr 1
    cases t with
    | nil => rfl
    | cons d t' =>
      have hs : ∀ (l : List UInt8), (∀ c ∈ l, blankB c = true) → wordsGo [] (l ++ v) = wordsGo [] v := by
        intro l hl
        induction l with
        | nil => rfl
        | cons e l ih2 => simp only [List.cons_append, wordsGo, hl e (by simp), if_true]; exact ih2 (fun x hx => hl x (by simp [hx]))
      exact hs (d :: t') (fun x hx => h x (by simp [hx]))
theorem words_mem : ∀ (l cur : List UInt8), (∀ c ∈ cur, blankB c = false) → ∀ x ∈ wordsGo cur l, x ≠ [] ∧ (∀ c ∈ x, blankB c = false) ∧ x.length ≤ cur.length + l.length
  | [], cur, hc, x, hx => by
    by_cases h : cur = []
    · simp [wordsGo, h] at hx
    · simp [wordsGo, h] at hx
      subst hx
      exact ⟨h, hc, by omega⟩
  | c :: l, cur, hc, x, hx => by
    by_cases hb : blankB c = true
    · by_cases h : cur = []
      · simp [wordsGo, hb, h] at hx
        have := words_mem l [] (by simp) x hx
        exact ⟨this.1, this.2.1, by have := this.2.2; simp at this ⊢; omega⟩
      · simp [wordsGo, hb, h] at hx
        rcases hx with rfl | hx
        · exact ⟨h, hc, by omega⟩
        · have := words_mem l [] (by simp) x hx
          exact ⟨this.1, this.2.1, by have := this.2.2; simp at this ⊢; omega⟩
    · simp [wordsGo, hb] at hx
      have := words_mem l (cur ++ [c]) (fun y hy => by
        rcases List.mem_append.1 hy with hy | hy
        · exact hc y hy
        · simp at hy; subst hy; simpa using hb) x hx
      exact ⟨this.1, this.2.1, by have := this.2.2; simp at this ⊢; omega⟩
theorem words_count : ∀ (l cur : List UInt8), (wordsGo cur l).length ≤ l.length + (if cur = [] then 0 else 1)
  | [], cur => by by_cases h : cur = [] <;> simp [wordsGo, h]
  | c :: l, cur => by
    by_cases hb : blankB c = true
    · have := words_count l []
      by_cases h : cur = []
      · simp [wordsGo, hb, h] at this ⊢; omega
      · simp [wordsGo, hb, h] at this ⊢; omega
    · have := words_count l (cur ++ [c])
      by_cases h : cur = []
      · simp [wordsGo, hb, h] at this ⊢; omega
      · simp [wordsGo, hb, h] at this ⊢; omega
theorem words_word {x : List UInt8} (hx : x ≠ []) (h : ∀ c ∈ x, blankB c = false) : words x = [x] := by
  have := words_skip x [] [] h
  rw [List.append_nil, List.nil_append] at this
  unfold words
  rw [this]
  simp [wordsGo, hx]
def blk4 : Nat → List UInt8 | 0 => [32] | 1 => [9] | 2 => [32, 32] | _ => [32, 9, 32]
theorem blk4_ok (k : Nat) : blk4 k ≠ [] ∧ (∀ c ∈ blk4 k, blankB c = true) ∧ (blk4 k).length ≤ 3 := by
  match k with
  | 0 => exact ⟨by simp [blk4], by decide, by decide⟩
  | 1 => exact ⟨by simp [blk4], by decide, by decide⟩
  | 2 => exact ⟨by simp [blk4], by decide, by decide⟩
  | k + 3 => exact ⟨by simp [blk4], by show ∀ c ∈ [32, 9, 32], blankB c = true; decide, by simp [blk4]⟩
theorem ba_list (s : ByteArray) : ∃ l : List UInt8, s = ⟨l.toArray⟩ := ⟨s.data.toList, by apply ByteArray.ext; simp⟩
theorem ba_sizeL (l : List UInt8) : (⟨l.toArray⟩ : ByteArray).size = l.length := sizeL l
theorem ba_appL (a b : List UInt8) : (⟨a.toArray⟩ : ByteArray) ++ (⟨b.toArray⟩ : ByteArray) = ⟨(a ++ b).toArray⟩ := by
  apply ByteArray.ext
  rw [ByteArray.data_append]
  simp
theorem tvs_one (L : List (List UInt8)) : ∀ u ∈ L.map tv, u.oneCell' = true := by
  intro u hu
  obtain ⟨q, _, rfl⟩ := List.mem_map.1 hu
  rfl
theorem Own.srcT {P : Program} {w : World} {B : Nat} {e : TypeId} {ao : Option Addr} {n cap : Nat} {xs : List Value} {tx e' : TypeId} (h : Own w B e 1 ao n cap xs) (hk : P.underlying tx = some (.slice e')) (h1 : ∀ u ∈ xs, u.oneCell' = true) : Src P 1 tx (.slice ao n cap) n xs w := by
  obtain ⟨b, _, h⟩ := RdV.of_Own h
  exact h.src hk h1
set_option maxRecDepth 40000 in
set_option maxHeartbeats 8000000 in
theorem LinesJoins_any (l1 l2 : List UInt8) (hw : UInt8) (w : World) :
    Calls Try.prog 7 #[.string ⟨l1.toArray⟩, .string ⟨l2.toArray⟩, .int .u8 (hw.toNat : Int)] w fun e w' => e = .returned (.bool true) ∧ Below w.heap.size w w' := by
  have z1 := ba_sizeL l1; have z2 := ba_sizeL l2
  by_cases hg : 5000 < l1.length ∨ 5000 < l2.length
  · skip
    rcases (show 5000 < l1.length ∨ (l1.length ≤ 5000 ∧ 5000 < l2.length) by omega) with hn | ⟨hn, hn2⟩
    · have hn' : 5000 < (l1.length : Int) := by omega
      go_enter Try.func7, Try.ntmps7
      go_wp2_with fail
      refine Calls.mono (alive12_any _) ?_
      rintro e w1 ⟨rfl, hc1⟩
      have C1 := Lib.hid hc1; clear hc1
      go_wp2_with fail
      refine Calls.mono (alive12_any _) ?_
      rintro e w2 ⟨rfl, hc2⟩
      have C2 := Lib.hid (C1.out.trans hc2); clear hc2
      go_wp2_with fail
      go_ret
      exact ⟨rfl, C2.out.belowN⟩
    · have hn' : ¬ 5000 < (l1.length : Int) := by omega
      have hn2' : 5000 < (l2.length : Int) := by omega
      go_enter Try.func7, Try.ntmps7
      go_wp2_with fail
      refine Calls.mono (alive12_any _) ?_
      rintro e w1 ⟨rfl, hc1⟩
      have C1 := Lib.hid hc1; clear hc1
      go_wp2_with fail
      refine Calls.mono (alive12_any _) ?_
      rintro e w2 ⟨rfl, hc2⟩
      have C2 := Lib.hid (C1.out.trans hc2); clear hc2
      go_wp2_with fail
      go_ret
      exact ⟨rfl, C2.out.belowN⟩
  · have hn' : ¬ 5000 < (l1.length : Int) := by omega
    have hn2' : ¬ 5000 < (l2.length : Int) := by omega
    obtain ⟨X, hX⟩ : ∃ X, words l1 = X := ⟨_, rfl⟩
    obtain ⟨Y, hY⟩ : ∃ Y, words l2 = Y := ⟨_, rfl⟩
    obtain ⟨nx, hnx⟩ : ∃ nx, X.length = nx := ⟨_, rfl⟩
    obtain ⟨ny, hny⟩ : ∃ ny, Y.length = ny := ⟨_, rfl⟩
    have hnx5 : nx ≤ 5000 := by rw [← hnx, ← hX]; have := words_count l1 []; simp at this; unfold words; omega
    have hny5 : ny ≤ 5000 := by rw [← hny, ← hY]; have := words_count l2 []; simp at this; unfold words; omega
    have XM : Hid (∀ x ∈ X, x ≠ [] ∧ (∀ c ∈ x, blankB c = false) ∧ x.length ≤ 5000) := Lib.hid (fun x hx => by
      rw [← hX] at hx
      have := words_mem l1 [] (by simp) x hx
      exact ⟨this.1, this.2.1, by have := this.2.2; simp at this; omega⟩)
    have XE := Lib.hid hX; have YE := Lib.hid hY; have XN := Lib.hid hnx; have YN := Lib.hid hny
    clear hX hY hnx hny
    obtain ⟨i1, hi1, hi2, hi3, hi4⟩ := info_parts Try.info_str
    have Hs1 := Lib.hid hi1; have Hs2 := Lib.hid hi2; have Hs3 := Lib.hid hi3; have Hs4 := Lib.hid hi4
    clear hi1 hi2 hi3 hi4
    have hlt := hw.toNat_lt
    have h4 : (hw.toNat : Int).tmod 4 = 0 ∨ (hw.toNat : Int).tmod 4 = 1 ∨ (hw.toNat : Int).tmod 4 = 2 ∨ (hw.toNat : Int).tmod 4 = 3 := by
      rw [Int.tmod_eq_emod_of_nonneg (by omega)]; omega
    rcases h4 with h4 | h4 | h4 | h4
    · skip
      have BO : Hid (([32] : List UInt8) ≠ [] ∧ (∀ c ∈ ([32] : List UInt8), blankB c = true) ∧ ([32] : List UInt8).length ≤ 3) := Lib.hid (blk4_ok 0)
      go_enter Try.func7, Try.ntmps7
      go_wp2_with (first
        | (go_at_call 9; refine Calls.mono (alive12_any _) ?_; rintro e w1 ⟨rfl, hc1⟩; have C1 := Lib.hid hc1; clear hc1)
        | (go_at_call 15; with_reducible refine Calls.mono (Words_of (l := l1) XE.out XN.out (by omega) _) ?_; rintro e w2 ⟨A1, rfl, ho2, hc2⟩; have O2 := Lib.hid ho2; have C2 := Lib.hid (C1.out.trans hc2); clear ho2 hc2)
        | (go_at_call 15; with_reducible refine Calls.mono (Words_of (l := l2) YE.out YN.out (by omega) _) ?_; rintro e w3 ⟨A2, rfl, ho3, hc3⟩; have O3 := Lib.hid ho3; have C3 := Lib.hid (C2.out.trans hc3); have O23 := Lib.hid (O2.out.chg hc3 (fun _ _ h => h)); clear ho3 hc3)
        | (at_builtin; refine wpList_append_Own rfl _ _ 27 27 rfl w3.heap.size 9 1 16 i1 (.string ⟨#[]⟩) Try.underlying27 Hs1.out Hs2.out Hs3.out rfl Hs4.out none 0 0 [] rfl (Own.nil _ _ _ _) _ nx _ rfl (Own.srcT (O23.out.alloc _) Try.underlying27 (tvs_one _)) (by unfold maxLen; omega) (by omega) (by simp) ?_; intro a4 c4 w4 hown4 hchg4 hb4 _; rw [Nat.zero_add, List.nil_append] at hown4; have Q4 := Lib.hid hown4; have C4 := Lib.hid (Chg.next (Chg.alloc C3.out _) hchg4 (fun i hi e => by simp [blk] at e)); have X4 := Lib.hid (Own.chg (O23.out.alloc _) hchg4 (fun k hk e => by simp [blk] at e)); have Y4 := Lib.hid (Own.chg (O3.out.alloc _) hchg4 (fun k hk e => by simp [blk] at e)); have B4 := Lib.hid (show w3.heap.size ≤ w4.heap.size by have := hchg4.size; simp at this; omega); clear hown4 hchg4 hb4)
        | (at_builtin; refine wpList_append_Own rfl _ _ 27 27 rfl w3.heap.size 9 1 16 i1 (.string ⟨#[]⟩) Try.underlying27 Hs1.out Hs2.out Hs3.out rfl Hs4.out a4 nx c4 _ rfl Q4.out _ ny _ rfl (Own.srcT Y4.out Try.underlying27 (tvs_one _)) (by unfold maxLen; omega) (by omega) B4.out ?_; intro a5 c5 w5 hown5 hchg5 hb5 _; have Q5 := Lib.hid hown5; have C5 := Lib.hid (Chg.next C4.out hchg5 (fun i hi e => by have := (Q4.out.lt i e.1).1; have := C3.out.size; omega)); have X5 := Lib.hid (Own.chg X4.out hchg5 (fun k hk e => by have h1 := (Q4.out.lt k e.1).1; have h2 := (O23.out.lt k hk).2; omega)); clear hown5 hchg5 hb5))
      rw [← List.map_append] at Q5
      go_loop [11, 12] (fun g i => ∃ (j : Nat) (G : List UInt8), g = .string ⟨G.toArray⟩ ∧ i = .int .i64 (j : Int) ∧ j ≤ nx ∧ words G = X.take j ∧ G.length ≤ j * 5003) (fun _ i => nx - (intOf i).toNat)
      case atStart => exact ⟨0, [], rfl, rfl, by omega, by simp [words, wordsGo], by simp⟩
      case round =>
        obtain ⟨j, G, rfl, rfl, hj, hG, hGl⟩ := hrel
        have HG := Lib.hid hG; clear hG
        by_cases hlt : j < nx
        · obtain ⟨g, hg', _, _, _, hc, _⟩ := X5.out.form (by omega)
          cases hg'
          have hjx : j < X.length := by rw [XN.out]; exact hlt
          obtain ⟨x, hx⟩ : ∃ x, X[j] = x := ⟨_, rfl⟩
          have d1 : w5.cell? ⟨A1, j, none⟩ = some (.string ⟨x.toArray⟩) := by rw [hc j (by omega)]; simp [hjx, hx, tv]
          have hxm := XM.out x (by rw [← hx]; exact List.getElem_mem hjx)
          have htk : X.take (j + 1) = X.take j ++ [x] := by rw [List.take_succ_eq_append_getElem hjx, hx]
          have hw2 : words ((G ++ [32]) ++ x) = X.take (j + 1) := by
            rw [words_join BO.out.1 BO.out.2.1, HG.out, words_word hxm.1 hxm.2.1, htk]
          have hl2 : ((G ++ [32]) ++ x).length ≤ (j + 1) * 5003 := by
            have h1 := BO.out.2.2; have h2 := hxm.2.2
            rw [List.length_append, List.length_append]; omega
          have hl1 : (G ++ [32]).length ≤ 50000000 := by
            have h1 := BO.out.2.2
            rw [List.length_append]; omega
          have hl0 : G.length ≤ 50000000 := by omega
          have hlx : x.length ≤ 5000 := hxm.2.2
          obtain ⟨c, t, hct⟩ : ∃ c t, x = c :: t := by
            cases x with
            | nil => exact absurd rfl hxm.1
            | cons c t => exact ⟨c, t, rfl⟩
          have ap1 : (⟨G.toArray⟩ : ByteArray) ++ (⟨#[32]⟩ : ByteArray) = ⟨(G ++ [32]).toArray⟩ := ba_appL G [32]
          have ap2 : (⟨(G ++ [32]).toArray⟩ : ByteArray) ++ (⟨x.toArray⟩ : ByteArray) = ⟨((G ++ [32]) ++ x).toArray⟩ := ba_appL _ _
          generalize (G ++ [32]) ++ x = G2 at ap2 hw2 hl2
          generalize G ++ [32] = G1 at ap1 ap2 hl1
          have W2 := Lib.hid hw2; have L2 := Lib.hid hl2
          clear hxm htk hw2 hl2 hx hjx hc hGl
          subst hct
          have hs2 : G1.length + (t.length + 1) ≤ 9223372036854775807 := by simp at hlx; omega
          have j0 : (0 : Int) ≤ (j : Int) := by omega
          have j1 : (j : Int) < (nx : Int) := by omega
          go_wp2_with fail
          go_round
          case rel => exact ⟨j + 1, G2, rfl, by go_num, by omega, W2.out, L2.out⟩
          case measure => simp [intOf]; omega
        · have j1 : ¬ (j : Int) < (nx : Int) := by omega
          have hjn : j = nx := by omega
          have hGX : words G = X := by rw [HG.out, List.take_of_length_le (by rw [XN.out]; omega)]
          have hl0 : G.length ≤ 50000000 := by omega
          have hb3 := BO.out.2.2
          have ap1 : (⟨G.toArray⟩ : ByteArray) ++ (⟨#[32]⟩ : ByteArray) = ⟨(G ++ [32]).toArray⟩ := ba_appL G [32]
          have ap3 : (⟨l1.toArray⟩ : ByteArray) ++ (⟨#[32]⟩ : ByteArray) = ⟨(l1 ++ [32]).toArray⟩ := ba_appL l1 [32]
          have ap4 : (⟨(l1 ++ [32]).toArray⟩ : ByteArray) ++ (⟨l2.toArray⟩ : ByteArray) = ⟨((l1 ++ [32]) ++ l2).toArray⟩ := ba_appL _ _
          have hw1 : words ((l1 ++ [32]) ++ l2) = X ++ Y := by rw [words_join BO.out.1 BO.out.2.1, XE.out, YE.out]
          have hw2 : words (G ++ [32]) = X := by
            have := words_join BO.out.1 BO.out.2.1 G []
            rw [List.append_nil] at this
            rw [this, hGX]; simp [words, wordsGo]
          have hl1 : (l1 ++ [32]).length ≤ 6000 := by rw [List.length_append]; omega
          have hl2 : ((l1 ++ [32]) ++ l2).length ≤ 20000 := by rw [List.length_append]; omega
          have hl3 : (G ++ [32]).length ≤ 60000000 := by rw [List.length_append]; omega
          have hl4 : l2.length ≤ 5000 := by omega
          generalize (l1 ++ [32]) ++ l2 = s1 at ap4 hw1 hl2
          generalize l1 ++ [32] = s0 at ap3 ap4 hl1
          generalize G ++ [32] = s2 at ap1 hw2 hl3
          have W1 := Lib.hid hw1; have W2 := Lib.hid hw2
          have NX : Hid ((X ++ Y).length = nx + ny) := Lib.hid (by rw [List.length_append, XN.out, YN.out])
          clear hw1 hw2 hGX hjn hb3
          go_wp2_with (first
            | (go_at_call 15; with_reducible refine Calls.mono (Words_of (l := s1) W1.out NX.out (by omega) _) ?_; rintro e w6 ⟨A6, rfl, ho6, hc6⟩; have O6 := Lib.hid ho6; have C6 := Lib.hid (C5.out.trans hc6); have Q6 := Lib.hid (Q5.out.chg hc6 (fun _ _ h => h)); have X6 := Lib.hid (X5.out.chg hc6 (fun _ _ h => h)); obtain ⟨g6, _, v6⟩ := RdV.of_Own ho6; obtain ⟨g6', _, v6'⟩ := RdV.of_Own Q6.out; have V6 := Lib.hid v6; have V6' := Lib.hid v6'; clear ho6 hc6 v6 v6')
            | (go_at_call 12; with_reducible refine Calls.mono (SameTexts_of (b := true) V6.out V6'.out (by simp)) ?_; rintro e w7 ⟨rfl, hc7⟩; have C7 := Lib.hid (C6.out.trans hc7); have X7 := Lib.hid (X6.out.chg hc7 (fun _ _ h => h)); clear hc7)
            | (go_at_call 15; with_reducible refine Calls.mono (Words_of (l := s2) W2.out XN.out (by omega) _) ?_; rintro e w8 ⟨A8, rfl, ho8, hc8⟩; have C8 := Lib.hid (C7.out.trans hc8); have X8 := Lib.hid (X7.out.chg hc8 (fun _ _ h => h)); obtain ⟨g8, _, v8⟩ := RdV.of_Own ho8; obtain ⟨g8', _, v8'⟩ := RdV.of_Own X8.out; have V8 := Lib.hid v8; have V8' := Lib.hid v8'; clear ho8 hc8 v8 v8')
            | (go_at_call 12; with_reducible refine Calls.mono (SameTexts_of (b := true) V8.out V8'.out (by simp)) ?_; rintro e w9 ⟨rfl, hc9⟩; have C9 := Lib.hid (C8.out.trans hc9); clear hc9))
          go_ret
          exact ⟨by simp, C9.out.belowN⟩
    · skip
      have BO : Hid (([9] : List UInt8) ≠ [] ∧ (∀ c ∈ ([9] : List UInt8), blankB c = true) ∧ ([9] : List UInt8).length ≤ 3) := Lib.hid (blk4_ok 1)
      go_enter Try.func7, Try.ntmps7
      go_wp2_with (first
        | (go_at_call 9; refine Calls.mono (alive12_any _) ?_; rintro e w1 ⟨rfl, hc1⟩; have C1 := Lib.hid hc1; clear hc1)
        | (go_at_call 15; with_reducible refine Calls.mono (Words_of (l := l1) XE.out XN.out (by omega) _) ?_; rintro e w2 ⟨A1, rfl, ho2, hc2⟩; have O2 := Lib.hid ho2; have C2 := Lib.hid (C1.out.trans hc2); clear ho2 hc2)
        | (go_at_call 15; with_reducible refine Calls.mono (Words_of (l := l2) YE.out YN.out (by omega) _) ?_; rintro e w3 ⟨A2, rfl, ho3, hc3⟩; have O3 := Lib.hid ho3; have C3 := Lib.hid (C2.out.trans hc3); have O23 := Lib.hid (O2.out.chg hc3 (fun _ _ h => h)); clear ho3 hc3)
        | (at_builtin; refine wpList_append_Own rfl _ _ 27 27 rfl w3.heap.size 9 1 16 i1 (.string ⟨#[]⟩) Try.underlying27 Hs1.out Hs2.out Hs3.out rfl Hs4.out none 0 0 [] rfl (Own.nil _ _ _ _) _ nx _ rfl (Own.srcT (O23.out.alloc _) Try.underlying27 (tvs_one _)) (by unfold maxLen; omega) (by omega) (by simp) ?_; intro a4 c4 w4 hown4 hchg4 hb4 _; rw [Nat.zero_add, List.nil_append] at hown4; have Q4 := Lib.hid hown4; have C4 := Lib.hid (Chg.next (Chg.alloc C3.out _) hchg4 (fun i hi e => by simp [blk] at e)); have X4 := Lib.hid (Own.chg (O23.out.alloc _) hchg4 (fun k hk e => by simp [blk] at e)); have Y4 := Lib.hid (Own.chg (O3.out.alloc _) hchg4 (fun k hk e => by simp [blk] at e)); have B4 := Lib.hid (show w3.heap.size ≤ w4.heap.size by have := hchg4.size; simp at this; omega); clear hown4 hchg4 hb4)
        | (at_builtin; refine wpList_append_Own rfl _ _ 27 27 rfl w3.heap.size 9 1 16 i1 (.string ⟨#[]⟩) Try.underlying27 Hs1.out Hs2.out Hs3.out rfl Hs4.out a4 nx c4 _ rfl Q4.out _ ny _ rfl (Own.srcT Y4.out Try.underlying27 (tvs_one _)) (by unfold maxLen; omega) (by omega) B4.out ?_; intro a5 c5 w5 hown5 hchg5 hb5 _; have Q5 := Lib.hid hown5; have C5 := Lib.hid (Chg.next C4.out hchg5 (fun i hi e => by have := (Q4.out.lt i e.1).1; have := C3.out.size; omega)); have X5 := Lib.hid (Own.chg X4.out hchg5 (fun k hk e => by have h1 := (Q4.out.lt k e.1).1; have h2 := (O23.out.lt k hk).2; omega)); clear hown5 hchg5 hb5))
      rw [← List.map_append] at Q5
      go_loop [11, 12] (fun g i => ∃ (j : Nat) (G : List UInt8), g = .string ⟨G.toArray⟩ ∧ i = .int .i64 (j : Int) ∧ j ≤ nx ∧ words G = X.take j ∧ G.length ≤ j * 5003) (fun _ i => nx - (intOf i).toNat)
      case atStart => exact ⟨0, [], rfl, rfl, by omega, by simp [words, wordsGo], by simp⟩
      case round =>
        obtain ⟨j, G, rfl, rfl, hj, hG, hGl⟩ := hrel
        have HG := Lib.hid hG; clear hG
        by_cases hlt : j < nx
        · obtain ⟨g, hg', _, _, _, hc, _⟩ := X5.out.form (by omega)
          cases hg'
          have hjx : j < X.length := by rw [XN.out]; exact hlt
          obtain ⟨x, hx⟩ : ∃ x, X[j] = x := ⟨_, rfl⟩
          have d1 : w5.cell? ⟨A1, j, none⟩ = some (.string ⟨x.toArray⟩) := by rw [hc j (by omega)]; simp [hjx, hx, tv]
          have hxm := XM.out x (by rw [← hx]; exact List.getElem_mem hjx)
          have htk : X.take (j + 1) = X.take j ++ [x] := by rw [List.take_succ_eq_append_getElem hjx, hx]
          have hw2 : words ((G ++ [9]) ++ x) = X.take (j + 1) := by
            rw [words_join BO.out.1 BO.out.2.1, HG.out, words_word hxm.1 hxm.2.1, htk]
          have hl2 : ((G ++ [9]) ++ x).length ≤ (j + 1) * 5003 := by
            have h1 := BO.out.2.2; have h2 := hxm.2.2
            rw [List.length_append, List.length_append]; omega
          have hl1 : (G ++ [9]).length ≤ 50000000 := by
            have h1 := BO.out.2.2
            rw [List.length_append]; omega
          have hl0 : G.length ≤ 50000000 := by omega
          have hlx : x.length ≤ 5000 := hxm.2.2
          obtain ⟨c, t, hct⟩ : ∃ c t, x = c :: t := by
            cases x with
            | nil => exact absurd rfl hxm.1
            | cons c t => exact ⟨c, t, rfl⟩
          have ap1 : (⟨G.toArray⟩ : ByteArray) ++ (⟨#[9]⟩ : ByteArray) = ⟨(G ++ [9]).toArray⟩ := ba_appL G [9]
          have ap2 : (⟨(G ++ [9]).toArray⟩ : ByteArray) ++ (⟨x.toArray⟩ : ByteArray) = ⟨((G ++ [9]) ++ x).toArray⟩ := ba_appL _ _
          generalize (G ++ [9]) ++ x = G2 at ap2 hw2 hl2
          generalize G ++ [9] = G1 at ap1 ap2 hl1
          have W2 := Lib.hid hw2; have L2 := Lib.hid hl2
          clear hxm htk hw2 hl2 hx hjx hc hGl
          subst hct
          have hs2 : G1.length + (t.length + 1) ≤ 9223372036854775807 := by simp at hlx; omega
          have j0 : (0 : Int) ≤ (j : Int) := by omega
          have j1 : (j : Int) < (nx : Int) := by omega
          go_wp2_with fail
          go_round
          case rel => exact ⟨j + 1, G2, rfl, by go_num, by omega, W2.out, L2.out⟩
          case measure => simp [intOf]; omega
        · have j1 : ¬ (j : Int) < (nx : Int) := by omega
          have hjn : j = nx := by omega
          have hGX : words G = X := by rw [HG.out, List.take_of_length_le (by rw [XN.out]; omega)]
          have hl0 : G.length ≤ 50000000 := by omega
          have hb3 := BO.out.2.2
          have ap1 : (⟨G.toArray⟩ : ByteArray) ++ (⟨#[9]⟩ : ByteArray) = ⟨(G ++ [9]).toArray⟩ := ba_appL G [9]
          have ap3 : (⟨l1.toArray⟩ : ByteArray) ++ (⟨#[9]⟩ : ByteArray) = ⟨(l1 ++ [9]).toArray⟩ := ba_appL l1 [9]
          have ap4 : (⟨(l1 ++ [9]).toArray⟩ : ByteArray) ++ (⟨l2.toArray⟩ : ByteArray) = ⟨((l1 ++ [9]) ++ l2).toArray⟩ := ba_appL _ _
          have hw1 : words ((l1 ++ [9]) ++ l2) = X ++ Y := by rw [words_join BO.out.1 BO.out.2.1, XE.out, YE.out]
          have hw2 : words (G ++ [9]) = X := by
            have := words_join BO.out.1 BO.out.2.1 G []
            rw [List.append_nil] at this
            rw [this, hGX]; simp [words, wordsGo]
          have hl1 : (l1 ++ [9]).length ≤ 6000 := by rw [List.length_append]; omega
          have hl2 : ((l1 ++ [9]) ++ l2).length ≤ 20000 := by rw [List.length_append]; omega
          have hl3 : (G ++ [9]).length ≤ 60000000 := by rw [List.length_append]; omega
          have hl4 : l2.length ≤ 5000 := by omega
          generalize (l1 ++ [9]) ++ l2 = s1 at ap4 hw1 hl2
          generalize l1 ++ [9] = s0 at ap3 ap4 hl1
          generalize G ++ [9] = s2 at ap1 hw2 hl3
          have W1 := Lib.hid hw1; have W2 := Lib.hid hw2
          have NX : Hid ((X ++ Y).length = nx + ny) := Lib.hid (by rw [List.length_append, XN.out, YN.out])
          clear hw1 hw2 hGX hjn hb3
          go_wp2_with (first
            | (go_at_call 15; with_reducible refine Calls.mono (Words_of (l := s1) W1.out NX.out (by omega) _) ?_; rintro e w6 ⟨A6, rfl, ho6, hc6⟩; have O6 := Lib.hid ho6; have C6 := Lib.hid (C5.out.trans hc6); have Q6 := Lib.hid (Q5.out.chg hc6 (fun _ _ h => h)); have X6 := Lib.hid (X5.out.chg hc6 (fun _ _ h => h)); obtain ⟨g6, _, v6⟩ := RdV.of_Own ho6; obtain ⟨g6', _, v6'⟩ := RdV.of_Own Q6.out; have V6 := Lib.hid v6; have V6' := Lib.hid v6'; clear ho6 hc6 v6 v6')
            | (go_at_call 12; with_reducible refine Calls.mono (SameTexts_of (b := true) V6.out V6'.out (by simp)) ?_; rintro e w7 ⟨rfl, hc7⟩; have C7 := Lib.hid (C6.out.trans hc7); have X7 := Lib.hid (X6.out.chg hc7 (fun _ _ h => h)); clear hc7)
            | (go_at_call 15; with_reducible refine Calls.mono (Words_of (l := s2) W2.out XN.out (by omega) _) ?_; rintro e w8 ⟨A8, rfl, ho8, hc8⟩; have C8 := Lib.hid (C7.out.trans hc8); have X8 := Lib.hid (X7.out.chg hc8 (fun _ _ h => h)); obtain ⟨g8, _, v8⟩ := RdV.of_Own ho8; obtain ⟨g8', _, v8'⟩ := RdV.of_Own X8.out; have V8 := Lib.hid v8; have V8' := Lib.hid v8'; clear ho8 hc8 v8 v8')
            | (go_at_call 12; with_reducible refine Calls.mono (SameTexts_of (b := true) V8.out V8'.out (by simp)) ?_; rintro e w9 ⟨rfl, hc9⟩; have C9 := Lib.hid (C8.out.trans hc9); clear hc9))
          go_ret
          exact ⟨by simp, C9.out.belowN⟩
    · skip
      have BO : Hid (([32, 32] : List UInt8) ≠ [] ∧ (∀ c ∈ ([32, 32] : List UInt8), blankB c = true) ∧ ([32, 32] : List UInt8).length ≤ 3) := Lib.hid (blk4_ok 2)
      go_enter Try.func7, Try.ntmps7
      go_wp2_with (first
        | (go_at_call 9; refine Calls.mono (alive12_any _) ?_; rintro e w1 ⟨rfl, hc1⟩; have C1 := Lib.hid hc1; clear hc1)
        | (go_at_call 15; with_reducible refine Calls.mono (Words_of (l := l1) XE.out XN.out (by omega) _) ?_; rintro e w2 ⟨A1, rfl, ho2, hc2⟩; have O2 := Lib.hid ho2; have C2 := Lib.hid (C1.out.trans hc2); clear ho2 hc2)
        | (go_at_call 15; with_reducible refine Calls.mono (Words_of (l := l2) YE.out YN.out (by omega) _) ?_; rintro e w3 ⟨A2, rfl, ho3, hc3⟩; have O3 := Lib.hid ho3; have C3 := Lib.hid (C2.out.trans hc3); have O23 := Lib.hid (O2.out.chg hc3 (fun _ _ h => h)); clear ho3 hc3)
        | (at_builtin; refine wpList_append_Own rfl _ _ 27 27 rfl w3.heap.size 9 1 16 i1 (.string ⟨#[]⟩) Try.underlying27 Hs1.out Hs2.out Hs3.out rfl Hs4.out none 0 0 [] rfl (Own.nil _ _ _ _) _ nx _ rfl (Own.srcT (O23.out.alloc _) Try.underlying27 (tvs_one _)) (by unfold maxLen; omega) (by omega) (by simp) ?_; intro a4 c4 w4 hown4 hchg4 hb4 _; rw [Nat.zero_add, List.nil_append] at hown4; have Q4 := Lib.hid hown4; have C4 := Lib.hid (Chg.next (Chg.alloc C3.out _) hchg4 (fun i hi e => by simp [blk] at e)); have X4 := Lib.hid (Own.chg (O23.out.alloc _) hchg4 (fun k hk e => by simp [blk] at e)); have Y4 := Lib.hid (Own.chg (O3.out.alloc _) hchg4 (fun k hk e => by simp [blk] at e)); have B4 := Lib.hid (show w3.heap.size ≤ w4.heap.size by have := hchg4.size; simp at this; omega); clear hown4 hchg4 hb4)
        | (at_builtin; refine wpList_append_Own rfl _ _ 27 27 rfl w3.heap.size 9 1 16 i1 (.string ⟨#[]⟩) Try.underlying27 Hs1.out Hs2.out Hs3.out rfl Hs4.out a4 nx c4 _ rfl Q4.out _ ny _ rfl (Own.srcT Y4.out Try.underlying27 (tvs_one _)) (by unfold maxLen; omega) (by omega) B4.out ?_; intro a5 c5 w5 hown5 hchg5 hb5 _; have Q5 := Lib.hid hown5; have C5 := Lib.hid (Chg.next C4.out hchg5 (fun i hi e => by have := (Q4.out.lt i e.1).1; have := C3.out.size; omega)); have X5 := Lib.hid (Own.chg X4.out hchg5 (fun k hk e => by have h1 := (Q4.out.lt k e.1).1; have h2 := (O23.out.lt k hk).2; omega)); clear hown5 hchg5 hb5))
      rw [← List.map_append] at Q5
      go_loop [11, 12] (fun g i => ∃ (j : Nat) (G : List UInt8), g = .string ⟨G.toArray⟩ ∧ i = .int .i64 (j : Int) ∧ j ≤ nx ∧ words G = X.take j ∧ G.length ≤ j * 5003) (fun _ i => nx - (intOf i).toNat)
      case atStart => exact ⟨0, [], rfl, rfl, by omega, by simp [words, wordsGo], by simp⟩
      case round =>
        obtain ⟨j, G, rfl, rfl, hj, hG, hGl⟩ := hrel
        have HG := Lib.hid hG; clear hG
        by_cases hlt : j < nx
        · obtain ⟨g, hg', _, _, _, hc, _⟩ := X5.out.form (by omega)
          cases hg'
          have hjx : j < X.length := by rw [XN.out]; exact hlt
          obtain ⟨x, hx⟩ : ∃ x, X[j] = x := ⟨_, rfl⟩
          have d1 : w5.cell? ⟨A1, j, none⟩ = some (.string ⟨x.toArray⟩) := by rw [hc j (by omega)]; simp [hjx, hx, tv]
          have hxm := XM.out x (by rw [← hx]; exact List.getElem_mem hjx)
          have htk : X.take (j + 1) = X.take j ++ [x] := by rw [List.take_succ_eq_append_getElem hjx, hx]
          have hw2 : words ((G ++ [32, 32]) ++ x) = X.take (j + 1) := by
            rw [words_join BO.out.1 BO.out.2.1, HG.out, words_word hxm.1 hxm.2.1, htk]
          have hl2 : ((G ++ [32, 32]) ++ x).length ≤ (j + 1) * 5003 := by
            have h1 := BO.out.2.2; have h2 := hxm.2.2
            rw [List.length_append, List.length_append]; omega
          have hl1 : (G ++ [32, 32]).length ≤ 50000000 := by
            have h1 := BO.out.2.2
            rw [List.length_append]; omega
          have hl0 : G.length ≤ 50000000 := by omega
          have hlx : x.length ≤ 5000 := hxm.2.2
          obtain ⟨c, t, hct⟩ : ∃ c t, x = c :: t := by
            cases x with
            | nil => exact absurd rfl hxm.1
            | cons c t => exact ⟨c, t, rfl⟩
          have ap1 : (⟨G.toArray⟩ : ByteArray) ++ (⟨#[32, 32]⟩ : ByteArray) = ⟨(G ++ [32, 32]).toArray⟩ := ba_appL G [32, 32]
          have ap2 : (⟨(G ++ [32, 32]).toArray⟩ : ByteArray) ++ (⟨x.toArray⟩ : ByteArray) = ⟨((G ++ [32, 32]) ++ x).toArray⟩ := ba_appL _ _
          generalize (G ++ [32, 32]) ++ x = G2 at ap2 hw2 hl2
          generalize G ++ [32, 32] = G1 at ap1 ap2 hl1
          have W2 := Lib.hid hw2; have L2 := Lib.hid hl2
          clear hxm htk hw2 hl2 hx hjx hc hGl
          subst hct
          have hs2 : G1.length + (t.length + 1) ≤ 9223372036854775807 := by simp at hlx; omega
          have j0 : (0 : Int) ≤ (j : Int) := by omega
          have j1 : (j : Int) < (nx : Int) := by omega
          go_wp2_with fail
          go_round
          case rel => exact ⟨j + 1, G2, rfl, by go_num, by omega, W2.out, L2.out⟩
          case measure => simp [intOf]; omega
        · have j1 : ¬ (j : Int) < (nx : Int) := by omega
          have hjn : j = nx := by omega
          have hGX : words G = X := by rw [HG.out, List.take_of_length_le (by rw [XN.out]; omega)]
          have hl0 : G.length ≤ 50000000 := by omega
          have hb3 := BO.out.2.2
          have ap1 : (⟨G.toArray⟩ : ByteArray) ++ (⟨#[32, 32]⟩ : ByteArray) = ⟨(G ++ [32, 32]).toArray⟩ := ba_appL G [32, 32]
          have ap3 : (⟨l1.toArray⟩ : ByteArray) ++ (⟨#[32, 32]⟩ : ByteArray) = ⟨(l1 ++ [32, 32]).toArray⟩ := ba_appL l1 [32, 32]
          have ap4 : (⟨(l1 ++ [32, 32]).toArray⟩ : ByteArray) ++ (⟨l2.toArray⟩ : ByteArray) = ⟨((l1 ++ [32, 32]) ++ l2).toArray⟩ := ba_appL _ _
          have hw1 : words ((l1 ++ [32, 32]) ++ l2) = X ++ Y := by rw [words_join BO.out.1 BO.out.2.1, XE.out, YE.out]
          have hw2 : words (G ++ [32, 32]) = X := by
            have := words_join BO.out.1 BO.out.2.1 G []
            rw [List.append_nil] at this
            rw [this, hGX]; simp [words, wordsGo]
          have hl1 : (l1 ++ [32, 32]).length ≤ 6000 := by rw [List.length_append]; omega
          have hl2 : ((l1 ++ [32, 32]) ++ l2).length ≤ 20000 := by rw [List.length_append]; omega
          have hl3 : (G ++ [32, 32]).length ≤ 60000000 := by rw [List.length_append]; omega
          have hl4 : l2.length ≤ 5000 := by omega
          generalize (l1 ++ [32, 32]) ++ l2 = s1 at ap4 hw1 hl2
          generalize l1 ++ [32, 32] = s0 at ap3 ap4 hl1
          generalize G ++ [32, 32] = s2 at ap1 hw2 hl3
          have W1 := Lib.hid hw1; have W2 := Lib.hid hw2
          have NX : Hid ((X ++ Y).length = nx + ny) := Lib.hid (by rw [List.length_append, XN.out, YN.out])
          clear hw1 hw2 hGX hjn hb3
          go_wp2_with (first
            | (go_at_call 15; with_reducible refine Calls.mono (Words_of (l := s1) W1.out NX.out (by omega) _) ?_; rintro e w6 ⟨A6, rfl, ho6, hc6⟩; have O6 := Lib.hid ho6; have C6 := Lib.hid (C5.out.trans hc6); have Q6 := Lib.hid (Q5.out.chg hc6 (fun _ _ h => h)); have X6 := Lib.hid (X5.out.chg hc6 (fun _ _ h => h)); obtain ⟨g6, _, v6⟩ := RdV.of_Own ho6; obtain ⟨g6', _, v6'⟩ := RdV.of_Own Q6.out; have V6 := Lib.hid v6; have V6' := Lib.hid v6'; clear ho6 hc6 v6 v6')
            | (go_at_call 12; with_reducible refine Calls.mono (SameTexts_of (b := true) V6.out V6'.out (by simp)) ?_; rintro e w7 ⟨rfl, hc7⟩; have C7 := Lib.hid (C6.out.trans hc7); have X7 := Lib.hid (X6.out.chg hc7 (fun _ _ h => h)); clear hc7)
            | (go_at_call 15; with_reducible refine Calls.mono (Words_of (l := s2) W2.out XN.out (by omega) _) ?_; rintro e w8 ⟨A8, rfl, ho8, hc8⟩; have C8 := Lib.hid (C7.out.trans hc8); have X8 := Lib.hid (X7.out.chg hc8 (fun _ _ h => h)); obtain ⟨g8, _, v8⟩ := RdV.of_Own ho8; obtain ⟨g8', _, v8'⟩ := RdV.of_Own X8.out; have V8 := Lib.hid v8; have V8' := Lib.hid v8'; clear ho8 hc8 v8 v8')
            | (go_at_call 12; with_reducible refine Calls.mono (SameTexts_of (b := true) V8.out V8'.out (by simp)) ?_; rintro e w9 ⟨rfl, hc9⟩; have C9 := Lib.hid (C8.out.trans hc9); clear hc9))
          go_ret
          exact ⟨by simp, C9.out.belowN⟩
    · skip
      have BO : Hid (([32, 9, 32] : List UInt8) ≠ [] ∧ (∀ c ∈ ([32, 9, 32] : List UInt8), blankB c = true) ∧ ([32, 9, 32] : List UInt8).length ≤ 3) := Lib.hid (blk4_ok 3)
      go_enter Try.func7, Try.ntmps7
      go_wp2_with (first
        | (go_at_call 9; refine Calls.mono (alive12_any _) ?_; rintro e w1 ⟨rfl, hc1⟩; have C1 := Lib.hid hc1; clear hc1)
        | (go_at_call 15; with_reducible refine Calls.mono (Words_of (l := l1) XE.out XN.out (by omega) _) ?_; rintro e w2 ⟨A1, rfl, ho2, hc2⟩; have O2 := Lib.hid ho2; have C2 := Lib.hid (C1.out.trans hc2); clear ho2 hc2)
        | (go_at_call 15; with_reducible refine Calls.mono (Words_of (l := l2) YE.out YN.out (by omega) _) ?_; rintro e w3 ⟨A2, rfl, ho3, hc3⟩; have O3 := Lib.hid ho3; have C3 := Lib.hid (C2.out.trans hc3); have O23 := Lib.hid (O2.out.chg hc3 (fun _ _ h => h)); clear ho3 hc3)
        | (at_builtin; refine wpList_append_Own rfl _ _ 27 27 rfl w3.heap.size 9 1 16 i1 (.string ⟨#[]⟩) Try.underlying27 Hs1.out Hs2.out Hs3.out rfl Hs4.out none 0 0 [] rfl (Own.nil _ _ _ _) _ nx _ rfl (Own.srcT (O23.out.alloc _) Try.underlying27 (tvs_one _)) (by unfold maxLen; omega) (by omega) (by simp) ?_; intro a4 c4 w4 hown4 hchg4 hb4 _; rw [Nat.zero_add, List.nil_append] at hown4; have Q4 := Lib.hid hown4; have C4 := Lib.hid (Chg.next (Chg.alloc C3.out _) hchg4 (fun i hi e => by simp [blk] at e)); have X4 := Lib.hid (Own.chg (O23.out.alloc _) hchg4 (fun k hk e => by simp [blk] at e)); have Y4 := Lib.hid (Own.chg (O3.out.alloc _) hchg4 (fun k hk e => by simp [blk] at e)); have B4 := Lib.hid (show w3.heap.size ≤ w4.heap.size by have := hchg4.size; simp at this; omega); clear hown4 hchg4 hb4)
        | (at_builtin; refine wpList_append_Own rfl _ _ 27 27 rfl w3.heap.size 9 1 16 i1 (.string ⟨#[]⟩) Try.underlying27 Hs1.out Hs2.out Hs3.out rfl Hs4.out a4 nx c4 _ rfl Q4.out _ ny _ rfl (Own.srcT Y4.out Try.underlying27 (tvs_one _)) (by unfold maxLen; omega) (by omega) B4.out ?_; intro a5 c5 w5 hown5 hchg5 hb5 _; have Q5 := Lib.hid hown5; have C5 := Lib.hid (Chg.next C4.out hchg5 (fun i hi e => by have := (Q4.out.lt i e.1).1; have := C3.out.size; omega)); have X5 := Lib.hid (Own.chg X4.out hchg5 (fun k hk e => by have h1 := (Q4.out.lt k e.1).1; have h2 := (O23.out.lt k hk).2; omega)); clear hown5 hchg5 hb5))
      rw [← List.map_append] at Q5
      go_loop [11, 12] (fun g i => ∃ (j : Nat) (G : List UInt8), g = .string ⟨G.toArray⟩ ∧ i = .int .i64 (j : Int) ∧ j ≤ nx ∧ words G = X.take j ∧ G.length ≤ j * 5003) (fun _ i => nx - (intOf i).toNat)
      case atStart => exact ⟨0, [], rfl, rfl, by omega, by simp [words, wordsGo], by simp⟩
      case round =>
        obtain ⟨j, G, rfl, rfl, hj, hG, hGl⟩ := hrel
        have HG := Lib.hid hG; clear hG
        by_cases hlt : j < nx
        · obtain ⟨g, hg', _, _, _, hc, _⟩ := X5.out.form (by omega)
          cases hg'
          have hjx : j < X.length := by rw [XN.out]; exact hlt
          obtain ⟨x, hx⟩ : ∃ x, X[j] = x := ⟨_, rfl⟩
          have d1 : w5.cell? ⟨A1, j, none⟩ = some (.string ⟨x.toArray⟩) := by rw [hc j (by omega)]; simp [hjx, hx, tv]
          have hxm := XM.out x (by rw [← hx]; exact List.getElem_mem hjx)
          have htk : X.take (j + 1) = X.take j ++ [x] := by rw [List.take_succ_eq_append_getElem hjx, hx]
          have hw2 : words ((G ++ [32, 9, 32]) ++ x) = X.take (j + 1) := by
            rw [words_join BO.out.1 BO.out.2.1, HG.out, words_word hxm.1 hxm.2.1, htk]
          have hl2 : ((G ++ [32, 9, 32]) ++ x).length ≤ (j + 1) * 5003 := by
            have h1 := BO.out.2.2; have h2 := hxm.2.2
            rw [List.length_append, List.length_append]; omega
          have hl1 : (G ++ [32, 9, 32]).length ≤ 50000000 := by
            have h1 := BO.out.2.2
            rw [List.length_append]; omega
          have hl0 : G.length ≤ 50000000 := by omega
          have hlx : x.length ≤ 5000 := hxm.2.2
          obtain ⟨c, t, hct⟩ : ∃ c t, x = c :: t := by
            cases x with
            | nil => exact absurd rfl hxm.1
            | cons c t => exact ⟨c, t, rfl⟩
          have ap1 : (⟨G.toArray⟩ : ByteArray) ++ (⟨#[32, 9, 32]⟩ : ByteArray) = ⟨(G ++ [32, 9, 32]).toArray⟩ := ba_appL G [32, 9, 32]
          have ap2 : (⟨(G ++ [32, 9, 32]).toArray⟩ : ByteArray) ++ (⟨x.toArray⟩ : ByteArray) = ⟨((G ++ [32, 9, 32]) ++ x).toArray⟩ := ba_appL _ _
          generalize (G ++ [32, 9, 32]) ++ x = G2 at ap2 hw2 hl2
          generalize G ++ [32, 9, 32] = G1 at ap1 ap2 hl1
          have W2 := Lib.hid hw2; have L2 := Lib.hid hl2
          clear hxm htk hw2 hl2 hx hjx hc hGl
          subst hct
          have hs2 : G1.length + (t.length + 1) ≤ 9223372036854775807 := by simp at hlx; omega
          have j0 : (0 : Int) ≤ (j : Int) := by omega
          have j1 : (j : Int) < (nx : Int) := by omega
          go_wp2_with fail
          go_round
          case rel => exact ⟨j + 1, G2, rfl, by go_num, by omega, W2.out, L2.out⟩
          case measure => simp [intOf]; omega
        · have j1 : ¬ (j : Int) < (nx : Int) := by omega
          have hjn : j = nx := by omega
          have hGX : words G = X := by rw [HG.out, List.take_of_length_le (by rw [XN.out]; omega)]
          have hl0 : G.length ≤ 50000000 := by omega
          have hb3 := BO.out.2.2
          have ap1 : (⟨G.toArray⟩ : ByteArray) ++ (⟨#[32, 9, 32]⟩ : ByteArray) = ⟨(G ++ [32, 9, 32]).toArray⟩ := ba_appL G [32, 9, 32]
          have ap3 : (⟨l1.toArray⟩ : ByteArray) ++ (⟨#[32, 9, 32]⟩ : ByteArray) = ⟨(l1 ++ [32, 9, 32]).toArray⟩ := ba_appL l1 [32, 9, 32]
          have ap4 : (⟨(l1 ++ [32, 9, 32]).toArray⟩ : ByteArray) ++ (⟨l2.toArray⟩ : ByteArray) = ⟨((l1 ++ [32, 9, 32]) ++ l2).toArray⟩ := ba_appL _ _
          have hw1 : words ((l1 ++ [32, 9, 32]) ++ l2) = X ++ Y := by rw [words_join BO.out.1 BO.out.2.1, XE.out, YE.out]
          have hw2 : words (G ++ [32, 9, 32]) = X := by
            have := words_join BO.out.1 BO.out.2.1 G []
            rw [List.append_nil] at this
            rw [this, hGX]; simp [words, wordsGo]
          have hl1 : (l1 ++ [32, 9, 32]).length ≤ 6000 := by rw [List.length_append]; omega
          have hl2 : ((l1 ++ [32, 9, 32]) ++ l2).length ≤ 20000 := by rw [List.length_append]; omega
          have hl3 : (G ++ [32, 9, 32]).length ≤ 60000000 := by rw [List.length_append]; omega
          have hl4 : l2.length ≤ 5000 := by omega
          generalize (l1 ++ [32, 9, 32]) ++ l2 = s1 at ap4 hw1 hl2
          generalize l1 ++ [32, 9, 32] = s0 at ap3 ap4 hl1
          generalize G ++ [32, 9, 32] = s2 at ap1 hw2 hl3
          have W1 := Lib.hid hw1; have W2 := Lib.hid hw2
          have NX : Hid ((X ++ Y).length = nx + ny) := Lib.hid (by rw [List.length_append, XN.out, YN.out])
          clear hw1 hw2 hGX hjn hb3
          go_wp2_with (first
            | (go_at_call 15; with_reducible refine Calls.mono (Words_of (l := s1) W1.out NX.out (by omega) _) ?_; rintro e w6 ⟨A6, rfl, ho6, hc6⟩; have O6 := Lib.hid ho6; have C6 := Lib.hid (C5.out.trans hc6); have Q6 := Lib.hid (Q5.out.chg hc6 (fun _ _ h => h)); have X6 := Lib.hid (X5.out.chg hc6 (fun _ _ h => h)); obtain ⟨g6, _, v6⟩ := RdV.of_Own ho6; obtain ⟨g6', _, v6'⟩ := RdV.of_Own Q6.out; have V6 := Lib.hid v6; have V6' := Lib.hid v6'; clear ho6 hc6 v6 v6')
            | (go_at_call 12; with_reducible refine Calls.mono (SameTexts_of (b := true) V6.out V6'.out (by simp)) ?_; rintro e w7 ⟨rfl, hc7⟩; have C7 := Lib.hid (C6.out.trans hc7); have X7 := Lib.hid (X6.out.chg hc7 (fun _ _ h => h)); clear hc7)
            | (go_at_call 15; with_reducible refine Calls.mono (Words_of (l := s2) W2.out XN.out (by omega) _) ?_; rintro e w8 ⟨A8, rfl, ho8, hc8⟩; have C8 := Lib.hid (C7.out.trans hc8); have X8 := Lib.hid (X7.out.chg hc8 (fun _ _ h => h)); obtain ⟨g8, _, v8⟩ := RdV.of_Own ho8; obtain ⟨g8', _, v8'⟩ := RdV.of_Own X8.out; have V8 := Lib.hid v8; have V8' := Lib.hid v8'; clear ho8 hc8 v8 v8')
            | (go_at_call 12; with_reducible refine Calls.mono (SameTexts_of (b := true) V8.out V8'.out (by simp)) ?_; rintro e w9 ⟨rfl, hc9⟩; have C9 := Lib.hid (C8.out.trans hc9); clear hc9))
          go_ret
          exact ⟨by simp, C9.out.belowN⟩
end Go.Proofs.Ytjjppbfknjeddaa
