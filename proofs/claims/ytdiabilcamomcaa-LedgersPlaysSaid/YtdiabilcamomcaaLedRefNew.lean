/- The document's ledger, made: which tenants may be. -/
import Derived.Test.YtdiabilcamomcaaLedRef
namespace Go.Proofs.Ytdiabilcamomcaa
open Go.RowKit
set_option linter.unusedVariables false
variable {w w' : World} {q g n cap : Nat} {ao : Option Addr} {T : List Ten} {L : Nat → Int}
set_option maxRecDepth 20000 in
set_option maxHeartbeats 1000000 in
theorem refMay_any (h : Tens w ao n cap T) (hok : ∀ i, i < n → TenOk (nth T i)) : Calls Try.prog 28 #[.slice ao n cap] w fun e w' => Says e (May T) ∧ Chg Non w w' := by
  obtain ⟨hTl, hlc, hcap, hnone, hcells⟩ := h
  unfold maxLen at hcap
  by_cases hrange : 1 ≤ n ∧ n ≤ 16
  · obtain ⟨b, off, rfl, hb, hcell⟩ := hcells (by omega)
    have HC := Lib.hid hcell; have HT := Lib.hid hTl; have HOK := Lib.hid hok
    have h16 : n ≤ 16 := hrange.2
    have h1 : 1 ≤ n := hrange.1
    clear hcell hTl hok hrange hnone hcells
    go_enter Try.func28, Try.ntmps28
    go_wp2_with fail
    go_loopw [3] (fun i wr => ∃ k : Nat, k ≤ n ∧ i = .int .i64 k ∧ Chg Non w wr ∧ MayN T k) (fun i _ => n - (intOf i).toNat)
    case atStart => exact ⟨0, by omega, rfl, Chg.refl _ _, fun i hi => by omega⟩
    case round =>
      obtain ⟨k, hk, rfl, hc, hmay⟩ := hrel
      have HCR := Lib.hid hc; have HM := Lib.hid hmay
      by_cases hlt : k < n
      · obtain ⟨c0, c1, c2⟩ := (HC.out k hlt).chg hc hb (fun h => h)
        have hno : ¬ TenMay (nth T k) → ¬ May T := fun h hM => h (hM.2.2 k (by have := HT.out; omega)).1
        have HNO := Lib.hid hno
        clear hc hmay hno
        go_wp2_with fail
        refine Calls.mono (name_any _ (HOK.out k hlt).1 _) ?_
        rintro e w1 ⟨⟨b', rfl, hb'⟩, hc1⟩
        have hcw : Chg Non wr w1 := ((Chg.refl Non wr).alloc _).trans hc1
        have hx : w1.heap[wr.heap.size]? = some (.cells #[.string (nth T k).name, .string (nth T k).key, .int .i64 (nth T k).rate] 28 (0, 0)) := (hc1.block _ (by simp) (fun h => h)).trans (heap_alloc_new _ _)
        obtain ⟨q0, q1, q2, _, _, _⟩ := res_cells hx
        have C1 := Lib.hid (HCR.out.trans hcw); have HB := Lib.hid hb'
        have hks := (HOK.out k hlt).2.1
        clear hc1 hcw hx hb'
        cases b' with
        | false =>
          go_wp2_with fail
          go_ret
          exact ⟨⟨false, rfl, (fun h => by cases h), fun h => absurd h (HNO.out fun h => (by have := HB.out.2 h.1; cases this))⟩, C1.out⟩
        | true =>
          by_cases hkey : (1 : Int) ≤ ((nth T k).key.size : Int) ∧ ((nth T k).key.size : Int) ≤ 64
          · by_cases hrate : 1 ≤ (nth T k).rate ∧ (nth T k).rate ≤ 1073741824
            · have HTM : Hid (TenMay (nth T k)) := ⟨HB.out.1 rfl, ⟨by omega, by omega⟩, hrate⟩
              have a1 : ¬ ((nth T k).key.size : Int) < 1 := by omega
              have a2 : ¬ (64 : Int) < ((nth T k).key.size : Int) := by omega
              have a3 : ¬ (nth T k).rate < 1 := by omega
              have a4 : ¬ (1073741824 : Int) < (nth T k).rate := by omega
              clear hkey hrate
              go_wp2_with fail
              go_loopw [5] (fun i wx => ∃ j : Nat, j ≤ k ∧ i = .int .i64 j ∧ (∀ l, l < j → (nth T l).name ≠ (nth T k).name) ∧ ∃ q, wx = w1.drewN q) (fun i _ => k - (intOf i).toNat)
              case atStart => exact ⟨0, by omega, rfl, fun l hl => by omega, 0, rfl⟩
              case round =>
                obtain ⟨j, hj, rfl, hdis, qq, rfl⟩ := hrel
                have HD := Lib.hid hdis; clear hdis
                by_cases hjk : j < k
                · obtain ⟨y0, _, _⟩ := (HC.out j (by omega)).chg C1.out hb (fun h => h)
                  have k0 : (0 : Int) ≤ (j : Int) := by omega
                  have k1 : (j : Int) < (n : Int) := by omega
                  by_cases hnm : (nth T j).name = (nth T k).name
                  · have hq := bytes_eq_list.2 hnm
                    have HNM := Lib.hid hnm; clear hnm
                    go_wp2_with fail
                    go_quiet (fail)
                    go_wp2_with fail
                    go_ret
                    exact ⟨⟨false, rfl, (fun h => by cases h), fun h => absurd HNM.out ((h.2.2 k (by have := HT.out; omega)).2 j hjk)⟩, (C1.out.drewN _).drewN _⟩
                  · have hq := bytes_ne_list hnm
                    have HNM := Lib.hid hnm; clear hnm
                    go_wp2_with fail
                    go_quiet (fail)
                    go_wp2_with fail
                    go_roundw
                    case rel =>
                      refine ⟨j + 1, by omega, by go_num, fun l hl => ?_, _, rfl⟩
                      rcases Nat.lt_succ_iff_lt_or_eq.1 hl with h | rfl
                      · exact HD.out l h
                      · exact HNM.out
                    case measure => simp [intOf]; omega
                · have hnext : MayN T (k + 1) := HM.out.succ HTM.out (fun ⟨l, hl, e⟩ => HD.out l (by omega) e.symm)
                  have HNX := Lib.hid hnext; clear hnext
                  go_wp2_with fail
                  go_roundw
                  case rel => exact ⟨k + 1, by omega, by go_num, C1.out.drewN _, HNX.out⟩
                  case measure => simp [intOf]; omega
            · have HRT : Hid (¬ May T) := HNO.out fun h => hrate h.2.2
              have a1 : ¬ ((nth T k).key.size : Int) < 1 := by omega
              have a2 : ¬ (64 : Int) < ((nth T k).key.size : Int) := by omega
              clear hkey
              go_wp2_with fail
              all_goals first
                | (go_ret; exact ⟨⟨false, rfl, (fun h => by cases h), fun h => absurd h HRT.out⟩, C1.out⟩)
                | (exfalso; apply hrate; omega)
                | (exfalso; omega)
          · have HRT : Hid (¬ May T) := HNO.out fun h => hkey ⟨by have := h.2.1; omega, by have := h.2.1; omega⟩
            go_wp2_with fail
            all_goals first
              | (go_ret; exact ⟨⟨false, rfl, (fun h => by cases h), fun h => absurd h HRT.out⟩, C1.out⟩)
              | (exfalso; apply hkey; omega)
              | (exfalso; omega)
      · have HTl := HT.out
        have hM : May T := ⟨by omega, by omega, fun i hi => HM.out i (by omega)⟩
        have HMT := Lib.hid hM
        clear hc hmay hM HTl
        go_wp2_with fail
        go_ret
        exact ⟨⟨true, rfl, fun _ => HMT.out, fun _ => rfl⟩, HCR.out⟩
  · have HNO : Hid (¬ May T) := fun h => hrange ⟨by have := h.1; omega, by have := h.2.1; omega⟩
    clear hcells hok hTl hnone
    by_cases h0 : n < 1
    · clear hrange
      go_enter Try.func28, Try.ntmps28
      go_wp2_with fail
      go_ret
      exact ⟨⟨false, rfl, (fun h => by cases h), fun h => absurd h HNO.out⟩, Chg.refl _ _⟩
    · have h17 : 16 < n := by omega
      clear hrange
      go_enter Try.func28, Try.ntmps28
      go_wp2_with fail
      go_ret
      exact ⟨⟨false, rfl, (fun h => by cases h), fun h => absurd h HNO.out⟩, Chg.refl _ _⟩
theorem Try.info_int : (Try.prog.info? 3).map (fun i => (i.zero, i.size, i.bytes)) = some (some (.int .i64 0), 1, 8) := by kernel_rfl
/-- What the document's 'New' gives. -/
def RefMade (e : Ending) (w w' : World) (ao : Option Addr) (n cap : Nat) (T : List Ten) : Prop :=
  (May T ∧ ∃ q g, e = .returned (.tuple #[.pointer (some ⟨q, 0, none⟩), .int .i64 0]) ∧ RefAt w' q g ao n cap T (fun _ => 0) ∧ w.heap.size ≤ g ∧ w.heap.size ≤ q) ∨ (¬ May T ∧ e = .returned (.tuple #[.pointer none, .int .i64 1]))
theorem refNew_any (h : Tens w ao n cap T) (hok : ∀ i, i < n → TenOk (nth T i)) : Calls Try.prog 16 #[.slice ao n cap] w fun e w' => Chg Non w w' ∧ RefMade e w w' ao n cap T := by
  obtain ⟨i0, hi, hz0, hz1, hz2⟩ := info_parts Try.info_int
  have Hi := Lib.hid hi; clear hi
  have Hz0 := Lib.hid hz0; clear hz0
  have Hz1 := Lib.hid hz1; clear hz1
  have Hz2 := Lib.hid hz2; clear hz2
  have H := Lib.hid h; have HO := Lib.hid hok; clear h hok
  go_enter Try.func16, Try.ntmps16
  go_wp2_with fail
  refine Calls.mono (refMay_any H.out HO.out) ?_
  rintro e w1 ⟨⟨b, rfl, hb⟩, hc⟩
  have HC := Lib.hid hc; have HB := Lib.hid hb; clear hc hb
  cases b with
  | false =>
    go_wp2_with fail
    go_ret2
    exact ⟨HC.out, .inr ⟨fun h => (by have := HB.out.2 h; cases this), rfl⟩⟩
  | true =>
    have hM := HB.out.1 rfl
    have hn : 1 ≤ n ∧ n ≤ 16 := ⟨by have := hM.1; have := H.out.1; omega, by have := hM.2.1; have := H.out.1; omega⟩
    have HM := Lib.hid hM; clear hM
    go_wp2_with (at_make; refine wpList_make_any rfl _ _ 66 rfl 3 i0 (.int .i64 0) 1 8 Try.underlying66 Hi.out Hz0.out Hz1.out Hz2.out _ _ _ _ n n rfl rfl rfl rfl (Nat.le_refl _) (by omega) (by unfold maxLen; omega) ?_)
    go_ret2
    have hl : ((w1.alloc (.cells (madeCells #[.int .i64 0] n) 3)).alloc (.cells #[.slice ao n cap, .slice (some ⟨w1.heap.size, 0, none⟩) n n] 68)).heap[w1.heap.size]? = some (.cells ((List.range n).map fun j => Value.int .i64 0).toArray 3 (0, 0)) := by
      rw [heap_alloc2_old w1 _ _]
      have e : (List.range n).map (fun _ => Value.int .i64 0) = List.replicate n (Value.int .i64 0) := by
        apply List.ext_getElem?
        intro i
        by_cases hi : i < n
        · simp [hi]
        · simp [hi]
      rw [madeCells_one, e]
    refine ⟨(HC.out.alloc _).alloc _, .inl ⟨HM.out, w1.heap.size + 1, w1.heap.size, rfl, ⟨heap_alloc2_new w1 _ _, hl, (H.out.non HC.out).non (((Chg.refl _ _).alloc _).alloc _), hn, fun a ha e => ?_⟩, HC.out.size, Nat.le_trans HC.out.size (Nat.le_succ _)⟩⟩
    obtain ⟨b, off, ha', hb, _⟩ := H.out.2.2.2.2 (by have := H.out.2.1; omega)
    rw [ha'] at ha
    cases ha
    have := HC.out.size
    simp only at e
    omega
end Go.Proofs.Ytdiabilcamomcaa
