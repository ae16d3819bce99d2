/- A new ledger, of any tenants: which are refused, and what the ledger looks like. -/
import Derived.Test.YtdiabilcamomcaaLedRefName
import Derived.Carry
namespace Go.Proofs.Ytdiabilcamomcaa
open Go.RowKit
set_option linter.unusedVariables false
attribute [local go_sem] run_makeMap
/-- A tenant's cells. -/
def TenAt (w : World) (b o : Nat) (x : Ten) : Prop := w.cell? ⟨b, o, none⟩ = some (.string x.name) ∧ w.cell? ⟨b, o + 1, none⟩ = some (.string x.key) ∧ w.cell? ⟨b, o + 2, none⟩ = some (.int .i64 x.rate)
/-- The slice reads as the tenants T. -/
def Tens (w : World) (ao : Option Addr) (n cap : Nat) (T : List Ten) : Prop :=
  T.length = n ∧ n ≤ cap ∧ cap ≤ maxLen ∧ (ao = none → cap = 0) ∧ (0 < cap → ∃ b off, ao = some ⟨b, off, none⟩ ∧ b < w.heap.size ∧ ∀ i, i < n → TenAt w b (off + i * 3) (nth T i))
/-- What any tenant's parts are. -/
def TenOk (x : Ten) : Prop := x.name.size ≤ maxLen ∧ x.key.size ≤ maxLen ∧ (Lit.int .i64 x.rate).wf = true
def TenMay (x : Ten) : Prop := NameOk x.name ∧ (1 ≤ x.key.size ∧ x.key.size ≤ 64) ∧ 1 ≤ x.rate ∧ x.rate ≤ 1073741824
def MayN (T : List Ten) (n : Nat) : Prop := ∀ i, i < n → TenMay (nth T i) ∧ ∀ k, k < i → (nth T k).name ≠ (nth T i).name
def May (T : List Ten) : Prop := 1 ≤ T.length ∧ T.length ≤ 16 ∧ MayN T T.length
theorem TenAt.chg {S : Nat → Prop} {w w' : World} {b o : Nat} {x : Ten} (h : TenAt w b o x) (hc : Chg S w w') (hb : b < w.heap.size) (hn : ¬ S b) : TenAt w' b o x :=
  ⟨(hc.cell (p := ⟨b, o, none⟩) hb hn).trans h.1, (hc.cell (p := ⟨b, o + 1, none⟩) hb hn).trans h.2.1, (hc.cell (p := ⟨b, o + 2, none⟩) hb hn).trans h.2.2⟩
theorem Tens.non {w w' : World} {ao : Option Addr} {n cap : Nat} {T : List Ten} (h : Tens w ao n cap T) (hc : Chg Non w w') : Tens w' ao n cap T := by
  obtain ⟨h1, h2, h3, h4, h5⟩ := h
  refine ⟨h1, h2, h3, h4, fun hp => ?_⟩
  obtain ⟨b, off, rfl, hb, hc'⟩ := h5 hp
  exact ⟨b, off, rfl, Nat.lt_of_lt_of_le hb hc.size, fun i hi => (hc' i hi).chg hc hb (fun h => h)⟩
theorem between_any (a lo hi : Int) (w : World) : Calls Try.prog 26 #[.int .i64 a, .int .i64 lo, .int .i64 hi] w fun e w' => e = .returned (.bool (decide (lo ≤ a) && decide (a ≤ hi))) ∧ w = w' := by
  go_enter Try.func26, Try.ntmps26
  go_wp2
  all_goals go_ret
  all_goals refine ⟨?_, rfl⟩
  all_goals simp_all <;> omega
theorem between_yes {a lo hi : Int} (h : lo ≤ a ∧ a ≤ hi) (w : World) : Calls Try.prog 26 #[.int .i64 a, .int .i64 lo, .int .i64 hi] w fun e w' => e = .returned (.bool true) ∧ w = w' := by
  refine Calls.mono (between_any a lo hi w) ?_
  rintro e w' ⟨rfl, rfl⟩
  simp [h.1, h.2]
theorem between_no {a lo hi : Int} (h : ¬ (lo ≤ a ∧ a ≤ hi)) (w : World) : Calls Try.prog 26 #[.int .i64 a, .int .i64 lo, .int .i64 hi] w fun e w' => e = .returned (.bool false) ∧ w = w' := by
  refine Calls.mono (between_any a lo hi w) ?_
  rintro e w' ⟨rfl, rfl⟩
  refine ⟨?_, rfl⟩
  congr 2
  rw [Bool.and_eq_false_iff]
  simp only [decide_eq_false_iff_not]
  omega
theorem zero_int (w : World) : (zeroValue 3).run Try.prog w = .ok (.int .i64 0) w := by kernel_rfl
/-- The names of the first k tenants. -/
def namesOf (T : List Ten) (k : Nat) : List ByteArray := (T.take k).map Ten.name
theorem namesOf_length {T : List Ten} {k : Nat} (hk : k ≤ T.length) : (namesOf T k).length = k := by simp [namesOf]; omega
theorem namesOf_succ {T : List Ten} {k : Nat} (hk : k < T.length) : namesOf T (k + 1) = namesOf T k ++ [(nth T k).name] := by
  simp only [namesOf, List.take_succ_eq_append_getElem hk, List.map_append, List.map_cons, List.map_nil, nth, List.getD]
  simp [hk]
theorem namesOf_sth {T : List Ten} {k j : Nat} (hk : k ≤ T.length) (hj : j < k) : sth (namesOf T k) j = (nth T j).name := by
  have h1 : j < T.length := by omega
  simp [sth, namesOf, nth, List.getD, hj, h1]
theorem hasN_names {T : List Ten} {k : Nat} (hk : k ≤ T.length) {s : ByteArray} : hasN s (namesOf T k) = true ↔ ∃ j, j < k ∧ s = (nth T j).name := by
  constructor
  · intro h
    apply Classical.byContradiction
    intro hno
    rw [hasN_no (l := namesOf T k) (s := s) fun j hj e => hno ⟨j, by rw [namesOf_length hk] at hj; exact hj, by rw [namesOf_length hk] at hj; rw [e, namesOf_sth hk hj]⟩] at h
    cases h
  · rintro ⟨j, hj, e⟩
    exact hasN_yes (k := j) (by rw [namesOf_length hk]; exact hj) (by rw [namesOf_sth hk hj]; exact e)
/-- What a new ledger's loop has made behind k tenants: the names' map at m1, the accounts' at m2. -/
structure Making (w : World) (m1 m2 : Nat) (A : List Nat) (T : List Ten) (k : Nat) : Prop where
  names : w.heap[m1]? = some (.map (nent 0 (namesOf T k)).toArray (namesOf T k).length)
  map : w.heap[m2]? = some (.map (ient 0 A).toArray A.length)
  len : A.length = k
  nodup : A.Nodup
  acc : ∀ j, j < A.length → w.heap[adr A j]? = some (accOf (nth T j) 0)
theorem adr_lt {A : List Nat} {a j : Nat} (hj : j < A.length) : adr (A ++ [a]) j = adr A j := by simp [adr, List.getD, List.getElem?_append_left hj]
theorem adr_last {A : List Nat} {a : Nat} : adr (A ++ [a]) A.length = a := by simp [adr, List.getD]
theorem adr_mem {A : List Nat} {a : Nat} (h : a ∈ A) : ∃ j, j < A.length ∧ a = adr A j := by
  obtain ⟨j, hj, rfl⟩ := List.getElem_of_mem h
  exact ⟨j, hj, by simp [adr, List.getD, hj]⟩
theorem Making.non {w w' : World} {m1 m2 : Nat} {A : List Nat} {T : List Ten} {k : Nat} (h : Making w m1 m2 A T k) (hc : Chg Non w w') : Making w' m1 m2 A T k := by
  have blk : ∀ {g : Nat} {o : Obj}, w.heap[g]? = some o → w'.heap[g]? = some o := fun {g o} hg => (hc.block g (Array.getElem?_eq_some_iff.1 hg).1 (fun h => h)).trans hg
  exact ⟨blk h.names, blk h.map, h.len, h.nodup, fun j hj => blk (h.acc j hj)⟩
theorem setBlock_at {w : World} {r k : Nat} {o : Obj} (hk : k ≠ r) : (ChangeMaps.setBlock w r o).heap[k]? = w.heap[k]? := by
  show (w.heap.setIfInBounds r o)[k]? = _
  rw [Array.getElem?_setIfInBounds, if_neg (fun e => hk e.symm)]
theorem setBlock_new {w : World} {r : Nat} {o o' : Obj} (h : w.heap[r]? = some o') : (ChangeMaps.setBlock w r o).heap[r]? = some o := (MapKept.heap_set h).1
theorem setBlock_size (w : World) (r : Nat) (o : Obj) : (ChangeMaps.setBlock w r o).heap.size = w.heap.size := by simp [ChangeMaps.setBlock]
/-- One more tenant: the name laid, the account made and laid. -/
theorem Making.more {w : World} {m1 m2 : Nat} {A : List Nat} {T : List Ten} {k : Nat} (h : Making w m1 m2 A T k) (hk : k < T.length) (hne : m1 ≠ m2) {w2 w3 w4 : World}
    (h2 : w2 = ChangeMaps.setBlock w m1 (.map (nent 0 (namesOf T k ++ [(nth T k).name])).toArray (namesOf T k ++ [(nth T k).name]).length))
    (h3 : w3 = w2.alloc (accOf (nth T k) 0))
    (h4 : w4 = ChangeMaps.setBlock w3 m2 (.map (ient 0 (A ++ [w2.heap.size])).toArray (A ++ [w2.heap.size]).length)) :
    Making w4 m1 m2 (A ++ [w2.heap.size]) T (k + 1) := by
  have l1 := (Array.getElem?_eq_some_iff.1 h.names).1
  have l2 := (Array.getElem?_eq_some_iff.1 h.map).1
  have s2 : w2.heap.size = w.heap.size := by rw [h2, setBlock_size]
  have b3 : ∀ g, g < w.heap.size → w3.heap[g]? = w2.heap[g]? := fun g hg => by rw [h3]; exact heap_alloc_old w2 _ (by omega)
  have b4 : ∀ g, g ≠ m2 → w4.heap[g]? = w3.heap[g]? := fun g hg => by rw [h4]; exact setBlock_at hg
  have b2 : ∀ g, g ≠ m1 → w2.heap[g]? = w.heap[g]? := fun g hg => by rw [h2]; exact setBlock_at hg
  have n3 : w3.heap[w2.heap.size]? = some (accOf (nth T k) 0) := by rw [h3]; exact heap_alloc_new w2 _
  have n2 : w2.heap[m1]? = some (.map (nent 0 (namesOf T k ++ [(nth T k).name])).toArray (namesOf T k ++ [(nth T k).name]).length) := by rw [h2]; exact setBlock_new h.names
  have hA : ∀ j, j < A.length → adr A j < w.heap.size := fun j hj => (Array.getElem?_eq_some_iff.1 (h.acc j hj)).1
  have hA1 : ∀ j, j < A.length → adr A j ≠ m1 := fun j hj e => by have := h.acc j hj; rw [e, h.names] at this; simp [accOf] at this
  have hA2 : ∀ j, j < A.length → adr A j ≠ m2 := fun j hj e => by have := h.acc j hj; rw [e, h.map] at this; simp [accOf] at this
  refine ⟨?_, ?_, by simp [h.len], ?_, ?_⟩
  · rw [namesOf_succ hk, b4 _ hne, b3 _ l1]
    exact n2
  · rw [h4]
    exact setBlock_new ((b3 _ l2).trans ((b2 _ hne.symm).trans h.map))
  · rw [List.nodup_append]
    refine ⟨h.nodup, by simp, ?_⟩
    intro a ha b hb
    obtain ⟨j, hj, rfl⟩ := adr_mem ha
    have : b = w2.heap.size := by simpa using hb
    have := hA j hj
    omega
  · intro j hj
    simp only [List.length_append, List.length_cons, List.length_nil] at hj
    by_cases e : j < A.length
    · rw [adr_lt e, b4 _ (hA2 j e), b3 _ (hA j e), b2 _ (hA1 j e)]
      exact h.acc j e
    · have hj' : j = A.length := by omega
      subst hj'
      rw [adr_last, b4 _ (by omega), h.len]
      exact n3
theorem MayN.succ {T : List Ten} {k : Nat} (h : MayN T k) (hm : TenMay (nth T k)) (hn : ¬ ∃ j, j < k ∧ (nth T k).name = (nth T j).name) : MayN T (k + 1) := by
  intro i hi
  rcases Nat.lt_succ_iff_lt_or_eq.1 hi with h' | rfl
  · exact h i h'
  · exact ⟨hm, fun j hj e => hn ⟨j, hj, e.symm⟩⟩
set_option maxRecDepth 20000 in
set_option maxHeartbeats 1000000 in
theorem New_any {w : World} {ao : Option Addr} {n cap : Nat} {T : List Ten} (h : Tens w ao n cap T) (hok : ∀ i, i < n → TenOk (nth T i)) : Calls Try.prog 15 #[.slice ao n cap] w fun e w' => Chg Non w w' ∧
    ((May T ∧ ∃ p m A, e = .returned (.tuple #[.pointer (some ⟨p, 0, none⟩), .int .i64 0]) ∧ LedAt w' p m A T (fun _ => 0) ∧ ∀ k, ledBlk p m A k → w.heap.size ≤ k) ∨ (¬ May T ∧ e = .returned (.tuple #[.pointer none, .int .i64 1]))) := by
  obtain ⟨hTl, hnc, hcm, hnone, hcells⟩ := h
  have hnm : (n : Int) ≤ 9223372036854775807 := by unfold maxLen at hcm; omega
  by_cases hrange : 1 ≤ n ∧ n ≤ 16
  · obtain ⟨b, off, rfl, hb, hcell⟩ := hcells (by omega)
    obtain ⟨w0, hw0⟩ : ∃ w0, w0 = (w.alloc (.map #[] 0)).alloc (.map #[] 0) := ⟨_, rfl⟩
    have hC0 : Chg Non w w0 := by rw [hw0]; exact ((Chg.refl _ _).alloc _).alloc _
    have hM0 : Making w0 w.heap.size (w.heap.size + 1) [] T 0 := by
      rw [hw0]
      exact ⟨by rw [show namesOf T 0 = [] from rfl]; exact heap_alloc2_old w _ _, heap_alloc2_new w _ _, rfl, List.nodup_nil, fun j hj => by cases hj⟩
    have HR := Lib.hid hrange; have HC := Lib.hid hcell; have HC0 := Lib.hid hC0; have HM0 := Lib.hid hM0; have HW := Lib.hid hw0; have HT := Lib.hid hTl; have HOK := Lib.hid hok
    clear hcell hC0 hM0 hw0 hTl hok hnone hcells
    have h16 : n ≤ 16 := hrange.2
    have h1 : 1 ≤ n := hrange.1
    clear hrange
    go_enter Try.func15, Try.ntmps15
    go_wp2_with (go_at_call 26; refine Calls.mono (between_yes (by omega) _) ?_; rintro e w' ⟨rfl, rfl⟩)
    rw [← HW.out]
    go_loopw [16] (fun i wr => ∃ (k : Nat) (A : List Nat), i = .int .i64 k ∧ k ≤ n ∧ Chg Non w wr ∧ Making wr w.heap.size (w.heap.size + 1) A T k ∧ (∀ j, j < A.length → w.heap.size ≤ adr A j) ∧ MayN T k) (fun i _ => n - (intOf i).toNat)
    case atStart => exact ⟨0, [], rfl, by omega, HC0.out, HM0.out, fun j hj => (by cases hj), fun i hi => by omega⟩
    case round =>
      obtain ⟨k, A, rfl, hk, hc, hm, hA, hmay⟩ := hrel
      have HTl := HT.out
      have HM := Lib.hid hm; have HC2 := Lib.hid hc; have HAA := Lib.hid hA; have HMAY := Lib.hid hmay
      by_cases hlt : k < n
      · obtain ⟨c0, c1, c2⟩ := (HC.out k hlt).chg hc hb (fun h => h)
        have hlook : ∀ w', Chg Non wr w' → (Instr.lookup 63 (.map (some w.heap.size)) (.string (nth T k).name) false).run Try.prog w' = .ok (.int .i64 (if hasN (nth T k).name (namesOf T k) then 1 else 0)) w' := fun w' h =>
          run_lookup_name (P := Try.prog) Try.underlying63 Try.underlying9 zero_int (hm.non h).names _
        clear hm hc hA hmay HTl
        by_cases hdup : hasN (nth T k).name (namesOf T k) = true
        · simp only [hdup, if_true] at hlook
          have HD := Lib.hid hdup; clear hdup
          go_wp2_with fail
          go_ret2
          refine ⟨HC2.out.trans ((Chg.refl _ _).alloc _), .inr ⟨fun hM => ?_, rfl⟩⟩
          have hTl := HT.out
          obtain ⟨j, hj, e⟩ := (hasN_names (by omega)).1 HD.out
          exact (hM.2.2 k (by omega)).2 j hj e.symm
        · simp only [hdup] at hlook
          have HD := Lib.hid hdup; clear hdup
          go_wp2_with fail
          refine Calls.mono (named_any _ (HOK.out k hlt).1 _) ?_
          rintro e w1 ⟨⟨b', rfl, hb'⟩, hc1⟩
          have hcw : Chg Non wr w1 := ((Chg.refl Non wr).alloc _).trans hc1
          have hx : w1.heap[wr.heap.size]? = some (.cells #[.string (nth T k).name, .string (nth T k).key, .int .i64 (nth T k).rate] 28 (0, 0)) := (hc1.block _ (by simp) (fun h => h)).trans (heap_alloc_new _ _)
          obtain ⟨q0, q1, q2, _, _, _⟩ := res_cells hx
          have HX := Lib.hid hx; clear hx
          have HCW := Lib.hid hcw; have HB := Lib.hid hb'
          clear hc1
          have hno : ¬ TenMay (nth T k) → ¬ May T := fun h hM => h (hM.2.2 k (by have := HT.out; omega)).1
          have HNO := Lib.hid hno; clear hno
          have hks := (HOK.out k hlt).2.1
          have hrw := (HOK.out k hlt).2.2
          cases b' with
          | false =>
            clear hb' hcw
            go_wp2_with fail
            go_ret2
            exact ⟨HC2.out.trans HCW.out, .inr ⟨HNO.out (fun h => (by have := HB.out.2 h.1; cases this)), rfl⟩⟩
          | true =>
            have hnmok := hb'.1 rfl
            have HNM := Lib.hid hnmok; clear hnmok hb'
            by_cases hkey : (1 : Int) ≤ ((nth T k).key.size : Int) ∧ ((nth T k).key.size : Int) ≤ 64
            · by_cases hrate : 1 ≤ (nth T k).rate ∧ (nth T k).rate ≤ 1073741824
              · have hml := hlook w1 hcw
                have hmk := HM.out.non hcw
                obtain ⟨w2, hw2⟩ : ∃ w2, w2 = ChangeMaps.setBlock w1 w.heap.size (.map (nent 0 (namesOf T k ++ [(nth T k).name])).toArray (namesOf T k ++ [(nth T k).name]).length) := ⟨_, rfl⟩
                have hu1 := run_update_name (P := Try.prog) Try.underlying63 Try.underlying9 hmk.names (by simpa using HD.out)
                rw [← hw2] at hu1
                have l1 : w.heap.size < wr.heap.size := (Array.getElem?_eq_some_iff.1 HM.out.names).1
                have hx2 : w2.heap[wr.heap.size]? = some (.cells #[.string (nth T k).name, .string (nth T k).key, .int .i64 (nth T k).rate] 28 (0, 0)) := by
                  rw [hw2, setBlock_at (by omega)]; exact HX.out
                obtain ⟨y0, y1, y2, _, _, _⟩ := res_cells hx2
                have hm3 : (w2.alloc (accOf (nth T k) 0)).heap[w.heap.size + 1]? = some (.map (ient 0 A).toArray A.length) := by
                  have e1 : w2.heap[w.heap.size + 1]? = some (.map (ient 0 A).toArray A.length) := by rw [hw2, setBlock_at (by omega)]; exact hmk.map
                  rw [heap_alloc_old w2 _ (Array.getElem?_eq_some_iff.1 e1).1]
                  exact e1
                have hu2 := run_update_place (P := Try.prog) Try.underlying23 Try.underlying3 hm3 w2.heap.size
                obtain ⟨w4, hw4⟩ : ∃ w4, w4 = ChangeMaps.setBlock (w2.alloc (accOf (nth T k) 0)) (w.heap.size + 1) (.map (ient 0 (A ++ [w2.heap.size])).toArray (A ++ [w2.heap.size]).length) := ⟨_, rfl⟩
                rw [← hw4] at hu2
                have hmore := hmk.more (by have := HT.out; omega) (by omega) hw2 rfl hw4
                have hs2 : w2.heap.size = w1.heap.size := by rw [hw2, setBlock_size]
                have hc4 : Chg Non w w4 := by
                  rw [hw4]
                  refine Chg.setIter (Chg.alloc ?_ _) (by omega) _
                  rw [hw2]
                  exact Chg.setIter (HC2.out.trans hcw) (by omega) _
                have hA4 : ∀ j, j < (A ++ [w2.heap.size]).length → w.heap.size ≤ adr (A ++ [w2.heap.size]) j := by
                  intro j hj
                  simp only [List.length_append, List.length_cons, List.length_nil] at hj
                  by_cases e : j < A.length
                  · rw [adr_lt e]; exact HAA.out j e
                  · have e' : j = A.length := by omega
                    subst e'
                    rw [adr_last]
                    have := hcw.size
                    omega
                have hmay4 : MayN T (k + 1) := HMAY.out.succ ⟨HNM.out, by omega, hrate⟩ (fun h => HD.out ((hasN_names (by have := HT.out; omega)).2 h))
                have hAl : A.length = k := HM.out.len
                unfold accOf ptr at hu2
                rw [hAl] at hu2
                have HC4 := Lib.hid hc4; have HA4 := Lib.hid hA4; have HM4 := Lib.hid hmay4; have HMO := Lib.hid hmore
                clear hc4 hA4 hmay4 hmore hm3 hx2 hw2 hw4 hmk hs2 hcw hlook hAl
                go_wp2_with fail
                refine Calls.mono (between_yes hkey _) ?_
                rintro e w' ⟨rfl, rfl⟩
                go_wp2_with fail
                refine Calls.mono (between_yes hrate _) ?_
                rintro e w' ⟨rfl, rfl⟩
                go_wp2_with fail
                go_roundw
                case rel => exact ⟨k + 1, _, by go_num, by omega, HC4.out, HMO.out, HA4.out, HM4.out⟩
                case measure => simp [intOf]; omega
              · clear hcw hlook
                go_wp2_with fail
                refine Calls.mono (between_yes hkey _) ?_
                rintro e w' ⟨rfl, rfl⟩
                go_wp2_with fail
                refine Calls.mono (between_no hrate _) ?_
                rintro e w' ⟨rfl, rfl⟩
                go_wp2_with fail
                go_ret2
                exact ⟨HC2.out.trans HCW.out, .inr ⟨HNO.out fun h => hrate h.2.2, rfl⟩⟩
            · clear hcw hlook
              go_wp2_with (go_at_call 26; refine Calls.mono (between_no hkey _) ?_; rintro e w' ⟨rfl, rfl⟩)
              go_ret2
              exact ⟨HC2.out.trans HCW.out, .inr ⟨HNO.out fun h => hkey ⟨by have := h.2.1; omega, by have := h.2.1; omega⟩, rfl⟩⟩
      · clear hm hc hA hmay HTl
        have hkn : k = n := by omega
        have HKN := Lib.hid hkn; clear hkn
        go_wp2_with fail
        go_ret2
        have hTl := HT.out
        have hkn := HKN.out
        have hMm := HM.out.non ((Chg.refl Non wr).alloc (.cells #[.map (some (w.heap.size + 1))] 25))
        refine ⟨HC2.out.alloc _, .inl ⟨⟨by omega, by omega, fun i hi => HMAY.out i (by omega)⟩, wr.heap.size, w.heap.size + 1, A, rfl, ⟨heap_alloc_new _ _, hMm.map, by rw [hMm.len]; omega, hMm.nodup, hMm.acc⟩, ?_⟩⟩
        rintro g (rfl | rfl | ⟨j, hj, rfl⟩)
        · exact HC2.out.size
        · omega
        · exact HAA.out j hj
  · have hrange' : ¬ ((1 : Int) ≤ (n : Int) ∧ (n : Int) ≤ 16) := by omega
    have HR := Lib.hid hrange; have HT := Lib.hid hTl
    clear hcells hok hrange hTl hnone
    go_enter Try.func15, Try.ntmps15
    go_wp2_with (go_at_call 26; refine Calls.mono (between_no hrange' _) ?_; rintro e w' ⟨rfl, rfl⟩)
    go_ret2
    exact ⟨Chg.refl _ _, .inr ⟨fun h => HR.out ⟨by have := HT.out; have := h.1; omega, by have := HT.out; have := h.2.1; omega⟩, rfl⟩⟩
end Go.Proofs.Ytdiabilcamomcaa
