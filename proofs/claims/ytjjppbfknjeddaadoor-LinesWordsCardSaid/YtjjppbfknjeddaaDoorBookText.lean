/- The book's lists of texts: kept, written over, grown, looked at. -/
import Derived.Test.YtjjppbfknjeddaaDoorTwin
import Derived.Test.YtjjppbfknjeddaaDoorBookP
import Derived.Test.YtjjppbfknjeddaaDoorAppZ
import Derived.Deep.RegionLaw
import Derived.Test.YtjjppbfknjeddaaDoorSmallShelf
namespace Go.Proofs.YtjjppbfknjeddaaDoor
open Go.RowKit
set_option linter.unusedVariables false
set_option linter.unusedSimpArgs false
attribute [local go_sem ↓] Go.wp_at_zero Go.wp_at_succ
def mkT (n : Nat) : Value := .string (⟨#[35]⟩ ++ ⟨(Lib.decDigits n).toArray⟩)
theorem FormatInt_small {n : Nat} (hn : n ≤ 99) (w : World) : Calls Tryd.prog 76 #[.int .i64 (n : Int), .int .i64 10] w fun e w' => e = .returned (.string ⟨(Lib.decDigits n).toArray⟩) ∧ w' = w := by
  have hs : n < 100 := by omega
  have h1 : (n : Int) < 100 := by omega
  go_enter Tryd.func76, Tryd.ntmps76
  go_wp2_with (go_at_call 77; refine Calls.mono (Any.internal_strconv_small Tryd.lays283 n hs _) ?_; rintro e w' ⟨rfl, rfl⟩)
  go_ret
  exact ⟨rfl, rfl⟩
theorem Itoa_in {n : Nat} (hn : n ≤ 99) (w : World) : Calls Tryd.prog 75 #[.int .i64 (n : Int)] w fun e w' => e = .returned (.string ⟨(Lib.decDigits n).toArray⟩) ∧ w' = w := by
  have hs : n < 100 := by omega
  have h1 : (n : Int) < 100 := by omega
  go_enter Tryd.func75, Tryd.ntmps75
  go_wp2_with (go_at_call 76; refine Calls.mono (FormatInt_small hn _) ?_; rintro e w' ⟨rfl, rfl⟩)
  go_ret
  exact ⟨rfl, rfl⟩
theorem Itoa_any {n : Nat} (hn : n ≤ 99) (w : World) : Calls Tryd.prog 74 #[.int .i64 (n : Int)] w fun e w' => e = .returned (.string ⟨(Lib.decDigits n).toArray⟩) ∧ w' = w := by
  have hs : n < 100 := by omega
  have h1 : (n : Int) < 100 := by omega
  go_enter Tryd.func74, Tryd.ntmps74
  go_wp2_with (go_at_call 75; refine Calls.mono (Itoa_in hn _) ?_; rintro e w' ⟨rfl, rfl⟩)
  go_ret
  exact ⟨rfl, rfl⟩
theorem word_any {n : Nat} (hn : n ≤ 99) (w : World) : Calls Tryd.prog 73 #[.int .i64 (n : Int)] w fun e w' => e = .returned (mkT n) ∧ w' = w := by
  have hl : (Lib.decDigits n).length ≤ 2 := by
    have h : ∀ m : Fin 100, (Lib.decDigits m.1).length ≤ 2 := by decide +kernel
    exact h ⟨n, by omega⟩
  have hl2 : ¬ 9223372036854775807 < 1 + (Lib.decDigits n).length := by omega
  go_enter Tryd.func73, Tryd.ntmps73
  go_wp2_with (go_at_call 74; refine Calls.mono (Itoa_any hn _) ?_; rintro e w' ⟨rfl, rfl⟩)
  go_ret
  exact ⟨rfl, rfl⟩
theorem markText_any {n : Nat} (hn : n ≤ 99) (w : World) : Calls Tryd.prog 53 #[.int .i64 (n : Int)] w fun e w' => e = .returned (mkT n) ∧ w' = w := by
  go_enter Tryd.func53, Tryd.ntmps53
  go_wp2_with (go_at_call 73; refine Calls.mono (word_any hn _) ?_; rintro e w' ⟨rfl, rfl⟩)
  go_ret
  exact ⟨rfl, rfl⟩
theorem isText_any {n : Nat} (hn : n ≤ 99) (w : World) : Calls Tryd.prog 65 #[mkT n, .int .i64 (n : Int)] w fun e w' => e = .returned (.bool true) ∧ w' = w := by
  obtain ⟨z, hz⟩ : ∃ z, mkT n = .string z := ⟨_, rfl⟩
  have HZ := Lib.hid hz
  rw [hz]
  clear hz
  go_enter Tryd.func65, Tryd.ntmps65
  go_wp2_with (go_at_call 73; refine Calls.mono (word_any hn _) ?_; rw [HZ.out]; rintro e w' ⟨rfl, rfl⟩)
  go_ret
  exact ⟨by first | rfl | simp, rfl⟩
theorem mkText_one (n : Nat) : (mkT n).oneCell' = true := rfl
theorem markText_of {n : Nat} {v : Value} (hv : mkT n = v) (hn : n ≤ 99) (w : World) : Calls Tryd.prog 53 #[.int .i64 (n : Int)] w fun e w' => e = .returned v ∧ w' = w := by subst hv; exact markText_any hn w
theorem isText_of {n : Nat} {v : Value} (hv : mkT n = v) (hn : n ≤ 99) (w : World) : Calls Tryd.prog 65 #[v, .int .i64 (n : Int)] w fun e w' => e = .returned (.bool true) ∧ w' = w := by subst hv; exact isText_any hn w
theorem Tryd.info_heldText : (Tryd.prog.info? 51).map (fun i => (i.zero, i.size, i.bytes)) = some (some (.agg #[.slice none 0 0, .slice none 0 0, .int .i64 0]), 3, 56) := by kernel_rfl
theorem Tryd.info_elText : (Tryd.prog.info? 9).map (fun i => (i.zero, i.size, i.bytes)) = some (some (.string ⟨#[]⟩), 1, 16) := by kernel_rfl
/-- The lists of texts that a book holds. -/
structure PartText (w : World) (B : Nat) (hb : Option Addr) (hc : Nat) (L : List Held) : Prop where
  row : Own w B 51 3 hb L.length hc (heldRow L)
  sep : SepH L
set_option maxRecDepth 40000 in
set_option maxHeartbeats 1000000 in
theorem keepText_any {w : World} {B k n : Nat} {hb : Option Addr} {hc : Nat} {L : List Held} {s1 s4 : Value} (hk : BookAt w k n s1 s4 (.slice hb L.length hc)) (hp : PartText w B hb hc L) (hB : B ≤ w.heap.size) (hn : n ≤ 1000000) (hl : L.length ≤ 1000000) {a : Option Addr} {m c : Nat} :
    Calls Tryd.prog 12 #[.pointer (some ⟨k, 0, none⟩), .slice a m c] w fun e w' => (∃ v, e = .returned v) ∧ ∃ hb' hc', BookAt w' k (n + 1) s1 s4 (.slice hb' (L.length + 1) hc') ∧ Own w' B 51 3 hb' (L.length + 1) hc' (heldRow (L ++ [⟨a, m, c, none, 0, 0, n + 1⟩])) ∧ Chg (fun q => q = k ∨ some q = blk hb) w w' := by
  obtain ⟨i0, hi, hz0, hz1, hz2⟩ := info_parts Tryd.info_heldText
  have Hi := Lib.hid hi; have Hz0 := Lib.hid hz0; have Hz1 := Lib.hid hz1; have Hz2 := Lib.hid hz2
  clear hi hz0 hz1 hz2
  have c0 := hk.cell 0; have c1 := hk.cell 5
  simp only [bookRow, List.getElem?_toArray, List.getElem?_cons_zero, List.getElem?_cons_succ] at c0 c1
  have f0 := hk.fr 0
  have HK := Lib.hid hk; have HP := Lib.hid hp
  clear hk hp
  go_enter Tryd.func12, Tryd.ntmps12
  go_wp2_with fail
  obtain ⟨w1, hw1⟩ : ∃ w1, w1 = w.setCell ⟨k, 0, none⟩ (.int .i64 ((n : Int) + 1)) := ⟨_, rfl⟩
  have hk1 : BookAt w1 k (n + 1) s1 s4 (.slice hb L.length hc) := by
    unfold BookAt
    rw [hw1, heap_setCell_same w k 0 _ _ _ HK.out]; rfl
  have hc1 : Chg (fun q => q = k) w w1 := by rw [hw1]; exact (Chg.refl (fun q => q = k) w).setCell (p := ⟨k, 0, none⟩) (.inr rfl) _
  have d0 := hk1.cell 0; have d1 := hk1.cell 5
  simp only [bookRow, List.getElem?_toArray, List.getElem?_cons_zero, List.getElem?_cons_succ] at d0 d1
  have f1 := hk1.fr 5
  have O1 := Lib.hid (HP.out.row.chg hc1 (own_row HP.out.row HK.out (by decide)))
  have K1 := Lib.hid hk1; have C1 := Lib.hid hc1
  rw [← hw1]
  have OR := Lib.hid (own_row HP.out.row HK.out (by decide))
  have KB := Lib.hid HK.out.lt
  have Z1 := Lib.hid (show B ≤ w1.heap.size from Nat.le_trans hB hc1.size)
  clear hw1 c0 c1 f0 hk1 hc1
  go_wp2_with fail
  have dA : ∀ o, (w1.alloc o).cell? ⟨k, 5, none⟩ = some (.slice hb L.length hc) := fun o => (((Chg.refl Non w1).alloc o).cell (p := ⟨k, 5, none⟩) K1.out.lt (fun h => h)).trans d1
  have dB : ∀ o, (w1.drew.alloc o).cell? ⟨k, 5, none⟩ = some (.slice hb L.length hc) := fun o => (((Chg.refl Non w1).drew.alloc o).cell (p := ⟨k, 5, none⟩) K1.out.lt (fun h => h)).trans d1
  go_region_law ((refine step_append_Own (by rfl) _ _ 30 30 (by rfl) B 51 3 56 i0 (.agg #[.slice none 0 0, .slice none 0 0, .int .i64 0]) Tryd.underlying30 Hi.out Hz0.out Hz1.out (by rfl) Hz2.out hb L.length hc (heldRow L) (by rfl) (O1.out.drew.alloc _) (.slice (some ⟨w1.heap.size, 0, none⟩) 1 1) 1 [.slice a m c, .slice none 0 0, .int .i64 ((n : Int) + 1)] (by rfl) (Src.cells Tryd.underlying30 (heap_alloc_new w1.drew (.cells #[.slice a m c, .slice none 0 0, .int .i64 ((n : Int) + 1)] 51 (0, 0))) 1 3 1 (by rfl) (by simp [Value.oneCell'])) (by unfold maxLen; omega) (by omega) (by have := Z1.out; simp <;> omega) ?_; intro hb2 hc2 w2 hown2 hchg2 _ _; have OWN2 := Lib.hid hown2; have CHG2 : Hid (Chg (fun q => some q = blk hb) w1 w2) := Lib.hid (((Chg.refl _ w1).drew.alloc _).trans (hchg2.mono (fun _ _ h => h.1))); have hk2 := K1.out.chg CHG2.out (fun e => OR.out k e rfl); have K2 := Lib.hid hk2; obtain ⟨u2, hu2⟩ : ∃ u, w2.cell? ⟨k, 5, none⟩ = some u := ⟨_, (hk2.cell 5).trans (by rfl)⟩; have fr2 := hk2.fr 5; clear hown2 hchg2 hk2))
  all_goals
    have hs : Chg (fun q => q = k) w2 (w2.setCell ⟨k, 5, none⟩ (.slice hb2 (L.length + 1) hc2)) := (Chg.refl (fun q => q = k) w2).setCell (p := ⟨k, 5, none⟩) (.inr rfl) _
    go_end0
    refine ⟨⟨_, rfl⟩, hb2, hc2, ?_, ?_, ?_⟩
    · unfold BookAt; rw [heap_setCell_same w2 k 5 _ _ _ K2.out]; rfl
    · have ho := OWN2.out.chg hs (own_row OWN2.out K2.out (by decide))
      rw [heldRow_append]
      simpa [heldRow, Held.cells] using ho
    · exact ((C1.out.mono (fun _ _ h => .inl h)).trans (CHG2.out.mono (fun _ _ h => .inr h))).trans (hs.mono (fun _ _ h => .inl h))
/- Every list written over. -/
set_option maxRecDepth 40000 in
set_option maxHeartbeats 1000000 in
theorem fillText_any {w : World} {B k n : Nat} {hb : Option Addr} {hc : Nat} {L : List Held} {s1 s4 : Value} (hk : BookAt w k n s1 s4 (.slice hb L.length hc)) (hp : PartText w B hb hc L) (hA : ∀ h ∈ L, AnyH w B 9 h) (hn : ∀ h ∈ L, h.no ≤ 99) (hl : L.length ≤ 1000000) :
    Calls Tryd.prog 17 #[.pointer (some ⟨k, 0, none⟩)] w fun e w' => (∃ v, e = .returned v) ∧ (∀ h ∈ L, FullH w' B 9 mkT h) ∧ Chg (hBlk L) w w' := by
  have HK := Lib.hid hk; have HP := Lib.hid hp; have HA := Lib.hid hA; have HN := Lib.hid hn
  clear hk hp hA hn
  go_enter Tryd.func17, Tryd.ntmps17
  go_wp2_with fail
  go_loopw [2] (fun i wr => ∃ j : Nat, j ≤ L.length ∧ i = .int .i64 (j : Int) ∧ (∀ (q : Nat) (h : Held), L[q]? = some h → q < j → FullH wr B 9 mkT h) ∧ (∀ (q : Nat) (h : Held), L[q]? = some h → AnyH wr B 9 h) ∧ Chg (hBlk L) w wr) (fun i _ => L.length - (intOf i).toNat)
  case atStart => exact ⟨0, by omega, rfl, fun q h _ hq => by omega, fun q h hq => HA.out h (List.mem_of_getElem? hq), Chg.refl _ _⟩
  case round =>
    obtain ⟨j, hj, rfl, hf, hy, hc1⟩ := hrel
    have HF := Lib.hid hf; have C1 := Lib.hid hc1; have HY := Lib.hid hy
    clear hf hc1 hy
    have NK : Hid (¬ hBlk L k) := Lib.hid (by
      rintro ⟨h, hm, hq⟩
      obtain ⟨X, hX⟩ := HA.out h hm
      exact ownZ_row hX HK.out (by decide) k hq rfl)
    have NB : Hid (∀ q, some q = blk hb → ¬ hBlk L q) := Lib.hid (by
      rintro q hq ⟨h, hm, hq2⟩
      obtain ⟨X, hX⟩ := HA.out h hm
      exact ownZ_apart hX HP.out.row (by decide) q hq2 hq)
    have K1 := Lib.hid (HK.out.chg C1.out NK.out)
    have O1 := Lib.hid (HP.out.row.chg C1.out NB.out)
    have d1 := K1.out.cell 5
    simp only [bookRow, List.getElem?_toArray, List.getElem?_cons_zero, List.getElem?_cons_succ] at d1
    by_cases hlt : j < L.length
    · obtain ⟨g, hg⟩ : ∃ g, L[j]? = some g := ⟨_, List.getElem?_eq_getElem hlt⟩
      obtain ⟨b, hb0, hbl, e1, e2, e3⟩ := heldCell O1.out hg
      subst hb0
      have hm := List.mem_of_getElem? hg
      have k0 : (0 : Int) ≤ (j : Int) := by omega
      have k1 : (j : Int) < (L.length : Int) := by omega
      have HG := Lib.hid hg; have HM := Lib.hid hm
      clear hg hm
      go_wp2_with fail
      obtain ⟨w2, hw2⟩ : ∃ w2, w2 = wr.alloc (.cells #[.slice g.a g.n g.c, .slice g.la g.ln g.lc, .int .i64 (g.no : Int)] 51) := ⟨_, rfl⟩
      have hx2 : w2.heap[wr.heap.size]? = some (.cells #[.slice g.a g.n g.c, .slice g.la g.ln g.lc, .int .i64 (g.no : Int)] 51 (0, 0)) := by rw [hw2]; exact heap_alloc_new _ _
      have C2 := Lib.hid (show Chg Non wr w2 by rw [hw2]; exact (Chg.refl _ _).alloc _)
      rw [← hw2]
      clear hw2 e1 e2 e3
      obtain ⟨x, hx⟩ : ∃ x, x = wr.heap.size := ⟨_, rfl⟩
      rw [← hx] at hx2 ⊢
      have HX := Lib.hid hx
      have X2 := Lib.hid hx2
      clear hx hx2
      have AG := Lib.hid (HY.out j g HG.out)
      have GN := Lib.hid (HN.out g HM.out)
      have hgn : g.n ≤ 9223372036854775807 := by obtain ⟨X, hX⟩ := AG.out; have := hX.len; unfold maxLen at this; omega
      go_loopw [4] (fun i ws => ∃ (m : Nat) (X : List Value), m ≤ g.n ∧ i = .int .i64 (m : Int) ∧ OwnZ ws B 9 g.a g.n g.c (List.replicate m (mkT g.no) ++ X) ∧ Chg (fun q => some q = blkZ g.a g.c) w2 ws) (fun i _ => g.n - (intOf i).toNat)
      case atStart =>
        obtain ⟨X, hX⟩ := AG.out
        exact ⟨0, X, by omega, rfl, by simpa using hX.chg C2.out (fun _ _ h => h), Chg.refl _ _⟩
      case round =>
        obtain ⟨m, X, hm, rfl, ho, hc⟩ := hrel
        have OX := Lib.hid ho; have CX := Lib.hid hc
        clear ho hc
        have XN : ∀ q, some q = blkZ g.a g.c → q ≠ x := by
          intro q hq
          obtain ⟨Y, hY⟩ := AG.out
          have := (hY.lt q hq).2; have := HX.out; omega
        have XC := Lib.hid ((CX.out.block x (Array.getElem?_eq_some_iff.1 X2.out).1 (fun e => XN x e rfl)).trans X2.out)
        have e1 : wr.cell? ⟨x, 0, none⟩ = some (.slice g.a g.n g.c) := by rw [cell_of_row _ x 0 _ _ _ XC.out]; rfl
        have e2 : wr.cell? ⟨x, 2, none⟩ = some (.int .i64 (g.no : Int)) := by rw [cell_of_row _ x 2 _ _ _ XC.out]; rfl
        by_cases hml : m < g.n
        · have ho := OX.out.pos (by omega)
          obtain ⟨OW, gb, hga, -, hgl, hgz⟩ := ho
          have hXl : 0 < X.length := by have := OX.out.len.1; simp at this; omega
          obtain ⟨gb', hga', -, -, hgf, -, hgc⟩ := OW.form (by have := OX.out.len; omega)
          obtain rfl : gb' = gb := by rw [hga] at hga'; simpa using hga'.symm
          have hsome := hgc m (by have := OX.out.len; omega)
          obtain ⟨u, hu⟩ := Option.isSome_iff_exists.1 hsome
          have hfm := hgf m
          rw [hga] at e1
          rw [hga] at OW
          obtain ⟨z, hz⟩ : ∃ z, mkT g.no = .string z := ⟨_, rfl⟩
          have MZ := Lib.hid hz
          have SET : Hid (OwnZ (wr.setCell ⟨gb', m, none⟩ (.string z)) B 9 g.a g.n g.c (List.replicate (m + 1) (mkT g.no) ++ X.tail)) := Lib.hid (by
            have h1 := OW.set (j := m) (by omega) (mkT g.no)
            rw [rep_set hXl, ← hga] at h1
            rw [← hz]
            exact .inl h1)
          have GZ := Lib.hid hgz
          have k0 : (0 : Int) ≤ (m : Int) := by omega
          have k1 : (m : Int) < (g.n : Int) := by omega
          clear hz OW hga hgl hgz hXl hga' hgf hgc hsome XN
          go_wp2_with fail
          go_region_law ((go_simp; go_at_call 53; refine Calls.mono (markText_of MZ.out (by have := GN.out; omega) _) ?_; rintro e w' ⟨rfl, rfl⟩))
          all_goals
            go_wp2_with fail
            go_roundw
            case rel => exact ⟨m + 1, X.tail, by omega, by go_num, SET.out, (CX.out.setCell (.inr GZ.out.symm) _).drew⟩
            case measure => simp [intOf]; omega
        · have k1 : ¬ (m : Int) < (g.n : Int) := by omega
          have hX0 : X = [] := by
            have := OX.out.len.1
            simp at this
            exact List.eq_nil_of_length_eq_zero (by omega)
          have FG : Hid (FullH wr B 9 mkT g) := Lib.hid (by
            have h1 := OX.out
            rw [hX0, List.append_nil, show m = g.n by omega] at h1
            exact h1)
          have SN := HP.out.sep
          clear hX0 XN
          go_wp2_with fail
          go_roundw
          case rel =>
            refine ⟨j + 1, by omega, by go_num, fun q h hq hlt2 => ?_, fun q h hq => ?_, (C1.out.trans (C2.out.mono (fun _ _ h => h.elim))).trans (CX.out.mono (fun q _ h => ⟨g, HM.out, h⟩))⟩
            · by_cases e : q = j
              · subst e
                have hh := hq.symm.trans HG.out
                simp only [Option.some.injEq] at hh
                subst hh
                exact FG.out
              · exact ((HF.out q h hq (by omega)).chg C2.out (fun _ _ h => h)).chg CX.out (SN.ne hq HG.out e)
            · by_cases e : q = j
              · subst e
                have hh := hq.symm.trans HG.out
                simp only [Option.some.injEq] at hh
                subst hh
                exact FG.out.any
              · exact ((HY.out q h hq).chg C2.out (fun _ _ h => h)).chg CX.out (SN.ne hq HG.out e)
          case measure => simp [intOf]; omega
    · have k1 : ¬ (j : Int) < (L.length : Int) := by omega
      obtain rfl : j = L.length := by omega
      go_wp2_with fail
      go_end0
      exact ⟨⟨_, rfl⟩, fun h hm => by obtain ⟨q, hq⟩ := List.getElem?_of_mem hm; exact HF.out q h hq (List.getElem?_eq_some_iff.1 hq).1, C1.out⟩
/-- What a round of growing knows: the list g, its long one so far. -/
structure GrownText (w2 ws : World) (B : Nat) (g : Held) (la : Option Addr) (ln lc : Nat) : Prop where
  ow : OwnZ ws B 9 la ln lc (List.replicate ln (mkT g.no))
  full : FullH ws B 9 mkT g
  at_ : ∀ y, some y = blkZ la lc → some y = blkZ g.a g.c ∨ w2.heap.size ≤ y
  same : (∃ y, some y = blkZ la lc ∧ some y = blkZ g.a g.c) → la = g.a ∧ lc = g.c
  chg : Chg (fun q => some q = blkZ g.a g.c) w2 ws
theorem GrownText.step {w2 ws w3 : World} {o : Obj} {B : Nat} {g : Held} {la l3 : Option Addr} {ln lc c3 : Nat} (h : GrownText w2 ws B g la ln lc) (hln : g.n ≤ ln) (hown : Own w3 B 9 1 l3 (ln + 1) c3 (List.replicate ln (mkT g.no) ++ [mkT g.no]))
    (hc : Chg (fun k => some k = blkZ la lc ∧ ln + 1 ≤ lc) (ws.alloc o) w3) (hb : (ln + 1 ≤ lc ∧ c3 = lc ∧ l3 = la) ∨ (lc < ln + 1 ∧ blk l3 = some (ws.alloc o).heap.size)) : GrownText w2 w3 B g l3 (ln + 1) c3 := by
  have hc3 : 0 < c3 := by have := hown.2.1; omega
  have hz3 : blkZ l3 c3 = blk l3 := blkZ_pos hc3
  have hca : Chg (fun q => some q = blkZ g.a g.c) w2 w3 := by
    refine (h.chg.alloc _).next hc (fun i hi e => ?_)
    rcases h.at_ i e.1 with e | e
    · exact e
    · omega
  refine ⟨.inl (by rw [List.replicate_succ']; exact hown), ?_, fun y hy => ?_, fun ⟨y, h1, h2⟩ => ?_, hca⟩
  · by_cases hq : ∃ y, (some y = blkZ la lc ∧ ln + 1 ≤ lc) ∧ some y = blkZ g.a g.c
    · obtain ⟨y, ⟨h1, hr⟩, h2⟩ := hq
      obtain ⟨rfl, rfl⟩ : c3 = lc ∧ l3 = la := by
        rcases hb with hb | hb
        · exact hb.2
        · omega
      obtain ⟨e1, e2⟩ := h.same ⟨y, h1, h2⟩
      subst e1; subst e2
      unfold FullH
      left
      obtain ⟨k1, k2, k3, k4, k5⟩ := hown
      refine ⟨by simp, by omega, k3, k4, fun a ha => ?_⟩
      obtain ⟨gg, cur, e1, e2, e3, e4, e5⟩ := k5 a ha
      refine ⟨gg, cur, e1, e2, e3, e4, ?_⟩
      have := congrArg (List.take (g.n * 1)) e5
      rw [List.take_take, show min (g.n * 1) ((ln + 1) * 1) = g.n * 1 by omega, ← List.replicate_succ', List.take_replicate, show min (g.n * 1) (ln + 1) = g.n by omega] at this
      exact this
    · have f1 : FullH (ws.alloc o) B 9 mkT g := h.full.chg (S := Non) ((Chg.refl _ _).alloc _) (fun _ _ h => h)
      exact f1.chg hc (fun q hq1 e => hq ⟨q, e, hq1⟩)
  · rw [hz3] at hy
    rcases hb with ⟨_, e1, e2⟩ | ⟨_, hb⟩
    · refine h.at_ y ?_
      rw [hy, e2, blkZ_pos (by omega)]
    · rw [hb] at hy
      cases hy
      have := h.chg.size
      right
      simp only [World.size_alloc]
      omega
  · rw [hz3] at h1
    rcases hb with ⟨_, e3, e4⟩ | ⟨_, hb⟩
    · obtain ⟨e1, e2⟩ := h.same ⟨y, by rw [h1, e4, blkZ_pos (by omega)], h2⟩
      exact ⟨e4.trans e1, e3.trans e2⟩
    · rw [hb] at h1
      cases h1
      have := (h.full.lt _ h2).2
      simp only [World.size_alloc] at this
      omega
set_option maxRecDepth 40000 in
set_option maxHeartbeats 2000000 in
theorem growText_any {w : World} {B k n : Nat} {hb : Option Addr} {hc : Nat} {L : List Held} {s1 s4 : Value} (hk : BookAt w k n s1 s4 (.slice hb L.length hc)) (hp : PartText w B hb hc L) (hA : ∀ h ∈ L, FullH w B 9 mkT h) (hn : ∀ h ∈ L, h.no ≤ 99) (hg : ∀ h ∈ L, h.n ≤ 1000000000) (hl : L.length ≤ 1000000) (hB : B ≤ w.heap.size) :
    Calls Tryd.prog 29 #[.pointer (some ⟨k, 0, none⟩)] w fun e w' => (∃ v, e = .returned v) ∧ ∃ L', L'.map keyH = L.map keyH ∧ Own w' B 51 3 hb L.length hc (heldRow L') ∧ (∀ h ∈ L', FullH w' B 9 mkT h ∧ LongH w' B 9 mkT h) ∧ Chg (fun q => hBlk L q ∨ some q = blk hb) w w' := by
  obtain ⟨i0, hi, hz0, hz1, hz2⟩ := info_parts Tryd.info_elText
  have Hi := Lib.hid hi; have Hz0 := Lib.hid hz0; have Hz1 := Lib.hid hz1; have Hz2 := Lib.hid hz2
  clear hi hz0 hz1 hz2
  have NK : Hid (∀ q, (hBlk L q ∨ some q = blk hb) → q ≠ k) := Lib.hid (by
    rintro q (⟨h, hm, hq⟩ | hq)
    · exact ownZ_row (hA h hm) hk (by decide) q hq
    · exact own_row hp.row hk (by decide) q hq)
  have NB : Hid (∀ q, hBlk L q → ¬ some q = blk hb) := Lib.hid (by
    rintro q ⟨h, hm, hq2⟩ hq
    exact ownZ_apart (hA h hm) hp.row (by decide) q hq2 hq)
  have HK := Lib.hid hk; have HP := Lib.hid hp; have HA := Lib.hid hA; have HN := Lib.hid hn; have HG0 := Lib.hid hg; have HB := Lib.hid hB
  clear hk hp hA hn hg hB
  go_enter Tryd.func29, Tryd.ntmps29
  go_wp2_with fail
  go_loopw [2] (fun i wr => ∃ (j : Nat) (L' : List Held), j ≤ L.length ∧ i = .int .i64 (j : Int) ∧ L'.map keyH = L.map keyH ∧ Own wr B 51 3 hb L.length hc (heldRow L') ∧ (∀ (q : Nat) (h : Held), L'[q]? = some h → FullH wr B 9 mkT h) ∧ (∀ (q : Nat) (h : Held), L'[q]? = some h → q < j → LongH wr B 9 mkT h ∧ (∀ y, some y = blk h.la → some y = blkZ h.a h.c ∨ w.heap.size ≤ y)) ∧ Chg (fun q => hBlk L q ∨ some q = blk hb) w wr) (fun i _ => L.length - (intOf i).toNat)
  case atStart => exact ⟨0, L, by omega, rfl, rfl, HP.out.row, fun q h hq => HA.out h (List.mem_of_getElem? hq), fun q h _ hq => by omega, Chg.refl _ _⟩
  case round =>
    obtain ⟨j, L', hj, rfl, hkeys, hrow, hf, hlg, hc1⟩ := hrel
    have hll : L'.length = L.length := by have := congrArg List.length hkeys; simpa using this
    have KEYS := Lib.hid hkeys; have O1 := Lib.hid hrow; have HF := Lib.hid hf; have HLG := Lib.hid hlg; have C1 := Lib.hid hc1; have LL := Lib.hid hll
    have K1 := Lib.hid (HK.out.chg C1.out (fun e => NK.out k e rfl))
    have d1 := K1.out.cell 5
    simp only [bookRow, List.getElem?_toArray, List.getElem?_cons_zero, List.getElem?_cons_succ] at d1
    clear hkeys hrow hf hlg hc1
    by_cases hlt : j < L.length
    · obtain ⟨g, hg⟩ : ∃ g, L'[j]? = some g := ⟨_, List.getElem?_eq_getElem (by omega)⟩
      obtain ⟨b, hb0, hbl, e1, e2, e3⟩ := heldCell (by rw [hll]; exact O1.out) hg
      subst hb0
      have hm := List.mem_of_getElem? hg
      have k0 : (0 : Int) ≤ (j : Int) := by omega
      have k1 : (j : Int) < (L.length : Int) := by omega
      have HG := Lib.hid hg
      have GN := Lib.hid (keys_no KEYS.out HN.out g hm)
      have GM : Hid (g.n ≤ 1000000000) := Lib.hid (by
        have hk : keyH g ∈ L.map keyH := by rw [← KEYS.out]; exact List.mem_map.2 ⟨g, hm, rfl⟩
        obtain ⟨g', hg', e⟩ := List.mem_map.1 hk
        simp only [keyH, Prod.mk.injEq] at e
        rw [← e.2.1]; exact HG0.out g' hg')
      have GB : Hid (∀ q, some q = blkZ g.a g.c → hBlk L q) := Lib.hid (fun q hq => keys_blk KEYS.out ⟨g, hm, hq⟩)
      clear hg hm hll
      go_wp2_with fail
      obtain ⟨w2, hw2⟩ : ∃ w2, w2 = wr.alloc (.cells #[.slice g.a g.n g.c, .slice g.la g.ln g.lc, .int .i64 (g.no : Int)] 51) := ⟨_, rfl⟩
      have hx2 : w2.heap[wr.heap.size]? = some (.cells #[.slice g.a g.n g.c, .slice g.la g.ln g.lc, .int .i64 (g.no : Int)] 51 (0, 0)) := by rw [hw2]; exact heap_alloc_new _ _
      have C2 := Lib.hid (show Chg Non wr w2 by rw [hw2]; exact (Chg.refl _ _).alloc _)
      rw [← hw2]
      clear hw2 e1 e2 e3
      obtain ⟨x, hx⟩ : ∃ x, x = wr.heap.size := ⟨_, rfl⟩
      rw [← hx] at hx2 ⊢
      have HX := Lib.hid hx
      have X2 := Lib.hid hx2
      have x0 : w2.cell? ⟨x, 0, none⟩ = some (.slice g.a g.n g.c) := by rw [cell_of_row _ x 0 _ _ _ hx2]; rfl
      clear hx hx2
      have FG := Lib.hid (HF.out j g HG.out)
      have F2 := Lib.hid (FG.out.chg C2.out (fun _ _ h => h))
      have ZW := Lib.hid (show w.heap.size ≤ w2.heap.size from Nat.le_trans C1.out.size C2.out.size)
      obtain ⟨z, hz⟩ : ∃ z, mkT g.no = .string z := ⟨_, rfl⟩
      have MZ := Lib.hid hz
      clear hz
      go_wp2_with fail
      go_loopw [4, 5] (fun a i ws => ∃ (m : Nat) (la : Option Addr) (lc : Nat), m ≤ 40 ∧ a = .slice la (g.n + m) lc ∧ i = .int .i64 (m : Int) ∧ GrownText w2 ws B g la (g.n + m) lc) (fun _ i _ => 40 - (intOf i).toNat)
      case atStart => exact ⟨0, g.a, g.c, by omega, rfl, rfl, ⟨F2.out, F2.out, fun y h => .inl h, fun _ => ⟨rfl, rfl⟩, Chg.refl _ _⟩⟩
      case round =>
        obtain ⟨m, la, lc, hm, rfl, rfl, hgr⟩ := hrel
        have GR := Lib.hid hgr
        clear hgr x0
        have XN : ∀ q, some q = blkZ g.a g.c → q ≠ x := by
          intro q hq
          have := (FG.out.lt q hq).2; have := HX.out; omega
        have XC := Lib.hid ((GR.out.chg.block x (Array.getElem?_eq_some_iff.1 X2.out).1 (fun e => XN x e rfl)).trans X2.out)
        have x2 : wr.cell? ⟨x, 2, none⟩ = some (.int .i64 (g.no : Int)) := by rw [cell_of_row _ x 2 _ _ _ XC.out]; rfl
        clear XN
        by_cases hml : m < 40
        · have k2 : (m : Int) < 40 := by omega
          obtain ⟨N1, hN1⟩ : ∃ N1, g.n + m = N1 := ⟨_, rfl⟩
          have GR1 : Hid (GrownText w2 wr B g la N1 lc) := Lib.hid (by rw [← hN1]; exact GR.out)
          have HN1 := Lib.hid hN1
          have hNb : N1 ≤ 1000000040 := by have := GM.out; omega
          rw [hN1]
          clear hN1 GR
          go_wp2_with (first
            | (go_at_call 53; refine Calls.mono (markText_of MZ.out (by have := GN.out; omega) _) ?_; rintro e w' ⟨rfl, rfl⟩)
            | (at_builtin; refine wpList_append_OwnZ rfl _ _ 23 23 rfl B 9 16 i0 (.string ⟨#[]⟩) Tryd.underlying23 Hi.out Hz0.out Hz1.out rfl Hz2.out la N1 lc _ rfl (GR1.out.ow.chg (S := Non) ((Chg.refl _ _).alloc _) (fun _ _ h => h)) _ 1 _ rfl (Src.cells Tryd.underlying23 (heap_alloc_new _ _) 1 1 1 (by rfl) (by simp [Value.oneCell'])) (by unfold maxLen; omega) (by omega) (by have h1 := GR1.out.chg.size; have h2 := ZW.out; have h3 := HB.out; simp <;> omega) (by omega) ?_; intro l3 c3 w3 hown hchg hb3; have GR3 := Lib.hid (GR1.out.step (by have := HN1.out; omega) (by rw [MZ.out]; rw [MZ.out] at hown; exact hown) hchg hb3); clear hown hchg hb3))
          go_roundw
          case rel => exact ⟨m + 1, l3, c3, by omega, by have := HN1.out; congr 1; omega, by go_num, by rw [show g.n + (m + 1) = N1 + 1 by have := HN1.out; omega]; exact GR3.out⟩
          case measure => simp [intOf]; omega
        · have k2 : ¬ (m : Int) < 40 := by omega
          obtain rfl : m = 40 := by omega
          have NG : ∀ y, some y = blkZ g.a g.c → ¬ some y = blk (some ⟨b, 0, none⟩) := fun y hy => NB.out y (GB.out y hy)
          have NG2 : ∀ y, some y = blk (some ⟨b, 0, none⟩) → ¬ some y = blkZ g.a g.c := fun y hy e => NG y e hy
          have GW : ∀ y, some y = blkZ g.a g.c → y < w.heap.size := by
            intro y hy
            obtain ⟨h, hm, hq⟩ := GB.out y hy
            exact ((HA.out h hm).lt y hq).2
          have K3 := Lib.hid ((K1.out.chg C2.out (fun h => h)).chg GR.out.chg (fun e => NK.out k (.inl (GB.out k e)) rfl))
          have O3 := Lib.hid ((O1.out.chg C2.out (fun _ _ h => h)).chg GR.out.chg NG2)
          have dk := K3.out.cell 5
          simp only [bookRow, List.getElem?_toArray, List.getElem?_cons_zero, List.getElem?_cons_succ] at dk
          obtain ⟨b', hb', -, -, hfz, -, hsm⟩ := O3.out.form (by have := O3.out.le; omega)
          obtain rfl : b' = b := by simpa using hb'.symm
          obtain ⟨u, hu⟩ := Option.isSome_iff_exists.1 (hsm (j * 3 + 1) (by have := O3.out.le; omega))
          have hf1 := hfz (j * 3 + 1)
          have NN1 := Lib.hid NG; have GWW := Lib.hid GW
          clear hb' hfz hsm NG NG2 GW x2
          obtain ⟨N2, hN2⟩ : ∃ N2, g.n + 40 = N2 := ⟨_, rfl⟩
          have HN2 := Lib.hid hN2
          have GR2 : Hid (GrownText w2 wr B g la N2 lc) := Lib.hid (by rw [← hN2]; exact GR.out)
          rw [hN2]
          clear hN2 GR
          go_wp2_with fail
          go_roundw
          case rel =>
            have hs : Chg (fun q => some q = blk (some ⟨b', 0, none⟩)) wr (wr.setCell ⟨b', j * 3 + 1, none⟩ (.slice la N2 lc)) := (Chg.refl (fun q => some q = blk (some (⟨b', 0, none⟩ : Addr))) wr).setCell (p := ⟨b', j * 3 + 1, none⟩) (.inr rfl) _
            have hrow := O3.out.set (j := j * 3 + 1) (by omega) (.slice la N2 lc)
            rw [heldRow_set HG.out] at hrow
            have SL := HP.out.sep.keys KEYS.out
            obtain ⟨hOl, gl, hgl1, -, -, hgl2⟩ := GR2.out.ow.pos (by have := HN2.out; omega)
            have hlc : blkZ la lc = blk la := by rw [hgl2, hgl1]; rfl
            have hget : ∀ (q : Nat) (h : Held), (L'.set j { g with la := la, ln := N2, lc := lc })[q]? = some h → (q = j ∧ h = { g with la := la, ln := N2, lc := lc }) ∨ (q ≠ j ∧ L'[q]? = some h) := by
              intro q h hq
              rw [List.getElem?_set] at hq
              by_cases e : j = q
              · subst e
                rw [if_pos rfl, if_pos (by have := LL.out; omega)] at hq
                exact .inl ⟨rfl, (Option.some.inj hq).symm⟩
              · rw [if_neg e] at hq
                exact .inr ⟨fun h => e h.symm, hq⟩
            refine ⟨j + 1, _, by omega, by go_num, (keys_set HG.out la N2 lc).trans KEYS.out, hrow, fun q h hq => ?_, fun q h hq hlt2 => ?_, ((C1.out.trans (C2.out.mono (fun _ _ h => h.elim))).trans (GR2.out.chg.mono (fun q _ h => .inl (GB.out q h)))).trans (hs.mono (fun q _ h => .inr h))⟩
            · rcases hget q h hq with ⟨rfl, rfl⟩ | ⟨hne, hq⟩
              · exact OwnZ.chg GR2.out.full hs NN1.out
              · exact (((HF.out q h hq).chg C2.out (fun _ _ h => h)).chg GR2.out.chg (SL.ne hq HG.out hne)).chg hs (fun y hy => NB.out y (keys_blk KEYS.out ⟨h, List.mem_of_getElem? hq, hy⟩))
            · rcases hget q h hq with ⟨rfl, rfl⟩ | ⟨hne, hq⟩
              · refine ⟨⟨HN2.out.symm, ?_⟩, fun y hy => ?_⟩
                · have h1 := hOl.chg hs (own_apart hOl O3.out (by decide))
                  rw [← HN2.out] at h1
                  show Own _ B 9 1 la N2 lc _
                  rw [← HN2.out]
                  exact h1
                · rcases GR2.out.at_ y (by rw [hlc]; exact hy) with e | e
                  · exact .inl e
                  · exact .inr (Nat.le_trans ZW.out e)
              · obtain ⟨h1, h2⟩ := HLG.out q h hq (by omega)
                have h3 := (h1.chg C2.out (fun _ _ h => h)).chg GR2.out.chg (fun y hy e => by
                  rcases h2 y hy with e2 | e2
                  · exact SL.ne hq HG.out hne y e2 e
                  · have := GWW.out y e; omega)
                exact ⟨h3.chg hs (own_apart h3.2 O3.out (by decide)), h2⟩
          case measure => simp [intOf]; omega
    · have k1 : ¬ (j : Int) < (L.length : Int) := by omega
      obtain rfl : j = L.length := by omega
      go_wp2_with fail
      go_end0
      exact ⟨⟨_, rfl⟩, L', KEYS.out, O1.out, fun h hm => by obtain ⟨q, hq⟩ := List.getElem?_of_mem hm; exact ⟨HF.out q h hq, (HLG.out q h hq (by have := (List.getElem?_eq_some_iff.1 hq).1; have := LL.out; omega)).1⟩, C1.out⟩
set_option maxRecDepth 40000 in
set_option maxHeartbeats 2000000 in
theorem lookText_any {w : World} {B k n : Nat} {hb : Option Addr} {hc : Nat} {L : List Held} {s1 s4 : Value} (hk : BookAt w k n s1 s4 (.slice hb L.length hc)) (hrow : Own w B 51 3 hb L.length hc (heldRow L)) (hA : ∀ h ∈ L, FullH w B 9 mkT h ∧ LongH w B 9 mkT h) (hn : ∀ h ∈ L, h.no ≤ 99) (hg : ∀ h ∈ L, h.n ≤ 1000000000) (hl : L.length ≤ 1000000) :
    Calls Tryd.prog 41 #[.pointer (some ⟨k, 0, none⟩)] w fun e w' => e = .returned (.bool true) ∧ Chg Non w w' := by
  have HK := Lib.hid hk; have HR := Lib.hid hrow; have HA := Lib.hid hA; have HN := Lib.hid hn; have HG0 := Lib.hid hg
  clear hk hrow hA hn hg
  go_enter Tryd.func41, Tryd.ntmps41
  go_wp2_with fail
  go_loopw [3] (fun i wr => ∃ j : Nat, j ≤ L.length ∧ i = .int .i64 (j : Int) ∧ Chg Non w wr) (fun i _ => L.length - (intOf i).toNat)
  case atStart => exact ⟨0, by omega, rfl, Chg.refl _ _⟩
  case round =>
    obtain ⟨j, hj, rfl, hc1⟩ := hrel
    have C1 := Lib.hid hc1
    have K1 := Lib.hid (HK.out.chg hc1 (fun h => h))
    have d1 := K1.out.cell 5
    simp only [bookRow, List.getElem?_toArray, List.getElem?_cons_zero, List.getElem?_cons_succ] at d1
    clear hc1
    by_cases hlt : j < L.length
    · obtain ⟨g, hg⟩ : ∃ g, L[j]? = some g := ⟨_, List.getElem?_eq_getElem hlt⟩
      obtain ⟨b, hb0, hbl, e1, e2, e3⟩ := heldCell (HR.out.chg C1.out (fun _ _ h => h)) hg
      subst hb0
      have hm := List.mem_of_getElem? hg
      have GN := Lib.hid (HN.out g hm)
      have GM := Lib.hid (HG0.out g hm)
      obtain ⟨hF, hLn, hLo⟩ := HA.out g hm
      have FG := Lib.hid (FullH.chg hF C1.out (fun _ _ h => h)); have LG := Lib.hid (hLo.chg C1.out (fun _ _ h => h)); have LN := Lib.hid hLn
      have k0 : (0 : Int) ≤ (j : Int) := by omega
      have k1 : (j : Int) < (L.length : Int) := by omega
      have hne : ((g.ln : Int) != (g.n : Int) + 40) = false := by rw [hLn]; simp
      have hgm : g.n ≤ 1000000000 := GM.out
      have hgl : g.ln ≤ 1000000040 := by omega
      clear hg hm hF hLn hLo
      go_wp2_with fail
      obtain ⟨w2, hw2⟩ : ∃ w2, w2 = wr.alloc (.cells #[.slice g.a g.n g.c, .slice g.la g.ln g.lc, .int .i64 (g.no : Int)] 51) := ⟨_, rfl⟩
      have hx2 : w2.heap[wr.heap.size]? = some (.cells #[.slice g.a g.n g.c, .slice g.la g.ln g.lc, .int .i64 (g.no : Int)] 51 (0, 0)) := by rw [hw2]; exact heap_alloc_new _ _
      have C2 := Lib.hid (show Chg Non wr w2 by rw [hw2]; exact (Chg.refl _ _).alloc _)
      rw [← hw2]
      clear hw2 e1 e2 e3
      obtain ⟨x, hx⟩ : ∃ x, x = wr.heap.size := ⟨_, rfl⟩
      rw [← hx] at hx2 ⊢
      have x0 : w2.cell? ⟨x, 0, none⟩ = some (.slice g.a g.n g.c) := by rw [cell_of_row _ x 0 _ _ _ hx2]; rfl
      have x1 : w2.cell? ⟨x, 1, none⟩ = some (.slice g.la g.ln g.lc) := by rw [cell_of_row _ x 1 _ _ _ hx2]; rfl
      have x2 : w2.cell? ⟨x, 2, none⟩ = some (.int .i64 (g.no : Int)) := by rw [cell_of_row _ x 2 _ _ _ hx2]; rfl
      have F2 := Lib.hid (FG.out.chg C2.out (fun _ _ h => h)); have L2 := Lib.hid (LG.out.chg C2.out (fun _ _ h => h))
      clear hx hx2
      obtain ⟨z, hz⟩ : ∃ z, mkT g.no = .string z := ⟨_, rfl⟩
      have MZ := Lib.hid hz
      clear hz
      go_wp2_with fail
      go_loopw [5] (fun i ws => ∃ m y : Nat, m ≤ g.ln ∧ i = .int .i64 (m : Int) ∧ ws = World.drewN w2 y) (fun i _ => g.ln - (intOf i).toNat)
      case atStart => exact ⟨0, 0, by omega, rfl, rfl⟩
      case round =>
        obtain ⟨m, y, hm, rfl, rfl⟩ := hrel
        by_cases hml : m < g.ln
        · obtain ⟨gl, hgl0, -, -, -, hcl, -⟩ := L2.out.form (by have := L2.out.le; omega)
          have c1 := hcl m (by omega)
          rw [List.getElem?_replicate, if_pos (by have := LN.out; omega), MZ.out] at c1
          clear hcl
          rw [hgl0] at x1
          have m0 : (0 : Int) ≤ (m : Int) := by omega
          have m1 : (m : Int) < (g.ln : Int) := by omega
          by_cases hmn : m < g.n
          · obtain ⟨OW, gb, hga, -, -, -⟩ := OwnZ.pos F2.out (by omega)
            obtain ⟨gb', hga', -, -, -, hcb, -⟩ := OW.form (by have := OW.le; omega)
            obtain rfl : gb' = gb := by rw [hga] at hga'; simpa using hga'.symm
            have c2 := hcb m (by omega)
            rw [List.getElem?_replicate, if_pos hmn, MZ.out] at c2
            rw [hga] at x0
            clear OW hga hga' hcb
            have m2 : (m : Int) < (g.n : Int) := by omega
            have hd : decide ((m : Int) < (g.n : Int)) = true := decide_eq_true m2
            go_wp2_with fail
            go_quiet ((go_at_call 65; with_reducible refine Calls.mono (isText_of MZ.out (by have := GN.out; omega) _) ?_; rintro e w2 ⟨rfl, rfl⟩; exact ⟨rfl, _, rfl⟩))
            go_wp2_with fail
            go_roundw
            case rel => exact ⟨m + 1, _, by omega, by go_num, by first | rfl | simp only [World.drewN_drewN]⟩
            case measure => simp [intOf]; omega
          · have hd : decide ((m : Int) < (g.n : Int)) = false := decide_eq_false (by omega)
            go_wp2_with fail
            go_quiet ((go_at_call 65; with_reducible refine Calls.mono (isText_of MZ.out (by have := GN.out; omega) _) ?_; rintro e w2 ⟨rfl, rfl⟩; exact ⟨rfl, _, rfl⟩))
            go_wp2_with fail
            go_roundw
            case rel => exact ⟨m + 1, _, by omega, by go_num, by first | rfl | simp only [World.drewN_drewN]⟩
            case measure => simp [intOf]; omega
        · have m1 : ¬ (m : Int) < (g.ln : Int) := by omega
          go_wp2_with fail
          go_roundw
          case rel => exact ⟨j + 1, by omega, by go_num, (C1.out.trans C2.out).drewN _⟩
          case measure => simp [intOf]; omega
    · have k1 : ¬ (j : Int) < (L.length : Int) := by omega
      go_wp2_with fail
      go_ret
      exact ⟨rfl, C1.out⟩
end Go.Proofs.YtjjppbfknjeddaaDoor
