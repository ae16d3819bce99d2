/- A ledger as it lies in memory, and what each call on it answers. -/
import Derived.Test.YtdiabilcamomcaaLedMap
namespace Go.Proofs.Ytdiabilcamomcaa
open Go.RowKit
set_option linter.unusedVariables false
/-- A tenant. -/
structure Ten where
  name : ByteArray
  key : ByteArray
  rate : Int
def tz : Ten := ⟨{ data := #[] }, { data := #[] }, 0⟩
def Ten.val (x : Ten) : Value := .agg #[.string x.name, .string x.key, .int .i64 x.rate]
/-- The i-th tenant. -/
def nth (T : List Ten) (i : Nat) : Ten := T.getD i tz
/-- The account of tenant x, with n left. -/
def accOf (x : Ten) (n : Int) : Obj := .cells #[.string x.name, .string x.key, .int .i64 x.rate, .int .i64 n] 60 (0, 0)
/-- The ledger at p, its map m, its accounts A: of tenants T, with L left. -/
structure LedAt (w : World) (p m : Nat) (A : List Nat) (T : List Ten) (L : Nat → Int) : Prop where
  head : w.heap[p]? = some (.cells #[.map (some m)] 25 (0, 0))
  map : w.heap[m]? = some (.map (ient 0 A).toArray A.length)
  len : A.length = T.length
  nodup : A.Nodup
  acc : ∀ j, j < A.length → w.heap[adr A j]? = some (accOf (nth T j) (L j))
/-- The blocks of a ledger. -/
def ledBlk (p m : Nat) (A : List Nat) (k : Nat) : Prop := k = p ∨ k = m ∨ ∃ j, j < A.length ∧ k = adr A j
variable {w w' : World} {p m : Nat} {A : List Nat} {T : List Ten} {L : Nat → Int}
theorem LedAt.lt (h : LedAt w p m A T L) {k : Nat} (hk : ledBlk p m A k) : k < w.heap.size := by
  rcases hk with rfl | rfl | ⟨j, hj, rfl⟩
  · exact (Array.getElem?_eq_some_iff.1 h.head).1
  · exact (Array.getElem?_eq_some_iff.1 h.map).1
  · exact (Array.getElem?_eq_some_iff.1 (h.acc j hj)).1
theorem LedAt.same (h : LedAt w p m A T L) (hk : ∀ k, ledBlk p m A k → w'.heap[k]? = w.heap[k]?) : LedAt w' p m A T L :=
  ⟨(hk p (.inl rfl)).trans h.head, (hk m (.inr (.inl rfl))).trans h.map, h.len, h.nodup, fun j hj => (hk _ (.inr (.inr ⟨j, hj, rfl⟩))).trans (h.acc j hj)⟩
theorem LedAt.chg {S : Nat → Prop} (h : LedAt w p m A T L) (hc : Chg S w w') (hn : ∀ k, ledBlk p m A k → ¬ S k) : LedAt w' p m A T L :=
  h.same fun k hk => hc.block k (h.lt hk) (hn k hk)
theorem LedAt.non (h : LedAt w p m A T L) (hc : Chg Non w w') : LedAt w' p m A T L := h.chg hc fun _ _ h => h
theorem LedAt.inj (h : LedAt w p m A T L) {i j : Nat} (hi : i < A.length) (hj : j < A.length) (e : adr A i = adr A j) : i = j := by
  have h1 : A[i] = A[j] := by simpa [adr, List.getD, hi, hj] using e
  have hp := List.pairwise_iff_getElem.1 h.nodup
  rcases Nat.lt_trichotomy i j with hlt | rfl | hlt
  · exact absurd h1 (hp i j hi hj hlt)
  · rfl
  · exact absurd h1.symm (hp j i hj hi hlt)
theorem LedAt.apart (h : LedAt w p m A T L) {j : Nat} (hj : j < A.length) : adr A j ≠ p ∧ adr A j ≠ m := by
  have h1 := h.acc j hj
  constructor
  · intro e
    rw [e, h.head] at h1
    simp [accOf] at h1
  · intro e
    rw [e, h.map] at h1
    simp [accOf] at h1
/-- What is left of one tenant's, written. -/
def upd (L : Nat → Int) (k : Nat) (v : Int) : Nat → Int := fun j => if j = k then v else L j
theorem LedAt.set (h : LedAt w p m A T L) {k : Nat} (hk : k < A.length) (v : Int) : LedAt (w.setCell ⟨adr A k, 3, none⟩ (.int .i64 v)) p m A T (upd L k v) := by
  have ha := h.apart hk
  refine ⟨(Below.heap_setCell _ _ _ _ (by simpa using fun e => ha.1 e.symm)).trans h.head, (Below.heap_setCell _ _ _ _ (by simpa using fun e => ha.2 e.symm)).trans h.map, h.len, h.nodup, fun j hj => ?_⟩
  by_cases e : j = k
  · subst e
    have h1 := h.acc j hj
    unfold accOf at h1 ⊢
    rw [upd, if_pos rfl]
    rw [World.setCell]
    show (w.heap.modify (adr A j) _)[adr A j]? = _
    rw [Array.getElem?_modify, if_pos rfl, h1]
    rfl
  · rw [upd, if_neg e]
    exact (Below.heap_setCell _ _ _ _ (by simpa using fun e' => e (h.inj hj hk e'))).trans (h.acc j hj)
theorem LedAt.congr (h : LedAt w p m A T L) {L' : Nat → Int} (hL : ∀ j, j < A.length → L' j = L j) : LedAt w p m A T L' :=
  ⟨h.head, h.map, h.len, h.nodup, fun j hj => by rw [hL j hj]; exact h.acc j hj⟩
theorem LedAt.cell (h : LedAt w p m A T L) : w.cell? ⟨p, 0, none⟩ = some (.map (some m)) := by rw [cell_of_row w p 0 _ _ _ h.head]; rfl
theorem LedAt.cells (h : LedAt w p m A T L) {j : Nat} (hj : j < A.length) : w.cell? ⟨adr A j, 0, none⟩ = some (.string (nth T j).name) ∧ w.cell? ⟨adr A j, 1, none⟩ = some (.string (nth T j).key) ∧ w.cell? ⟨adr A j, 2, none⟩ = some (.int .i64 (nth T j).rate) ∧ w.cell? ⟨adr A j, 3, none⟩ = some (.int .i64 (L j)) ∧ w.frozen? ⟨adr A j, 3, none⟩ = false := by
  have h1 := h.acc j hj
  unfold accOf at h1
  refine ⟨?_, ?_, ?_, ?_, frozen_of_row w _ _ _ _ h1⟩ <;> (rw [cell_of_row w _ _ _ _ _ h1]; rfl)
theorem zero_acc (w : World) : (zeroValue 58).run Try.prog w = .ok (.pointer none) w := by kernel_rfl
theorem there_yes (h : w.cell? ⟨p, 0, none⟩ = some (.map (some m))) : Calls Try.prog 25 #[.pointer (some ⟨p, 0, none⟩)] w fun e w' => e = .returned (.bool true) ∧ w = w' := by
  have hm := fun (w : World) (r : Option Nat) => run_neq_map_nil (P := Try.prog) w 23 3 58 r Try.underlying23
  go_enter Try.func25, Try.ntmps25
  go_wp2
  go_ret
  exact ⟨rfl, rfl⟩
/-- Is there such a tenant? -/
def inA (A : List Nat) (t : Int) : Prop := 0 ≤ t ∧ t < A.length
theorem Left_yes (h : LedAt w p m A T L) (t : Int) : Calls Try.prog 10 #[.pointer (some ⟨p, 0, none⟩), .int .i64 t] w fun e w' => w = w' ∧
    ((inA A t ∧ e = .returned (.tuple #[.int .i64 (L t.toNat), .int .i64 0])) ∨ (¬ inA A t ∧ e = .returned (.tuple #[.int .i64 0, .int .i64 1]))) := by
  have c0 := h.cell
  have hl := run_lookup_place (P := Try.prog) Try.underlying23 Try.underlying3 zero_acc h.map t
  by_cases hin : 0 ≤ t ∧ t < A.length
  · rw [if_pos hin] at hl
    unfold ptr at hl
    obtain ⟨_, _, _, c3, _⟩ := h.cells (j := t.toNat) (by omega)
    have Hin := Lib.hid hin; clear hin h
    go_enter Try.func10, Try.ntmps10
    go_wp2_with (go_at_call 25; refine Calls.mono (there_yes c0) ?_; rintro e w' ⟨rfl, rfl⟩)
    go_ret2
    exact ⟨rfl, .inl ⟨Hin.out, rfl⟩⟩
  · rw [if_neg hin] at hl
    have Hin := Lib.hid hin; clear hin h
    go_enter Try.func10, Try.ntmps10
    go_wp2_with (go_at_call 25; refine Calls.mono (there_yes c0) ?_; rintro e w' ⟨rfl, rfl⟩)
    go_ret2
    exact ⟨rfl, .inr ⟨Hin.out, rfl⟩⟩
/-- What is taken of a tenant's. -/
theorem Spend_yes (h : LedAt w p m A T L) (hL : ∀ j, 0 ≤ L j ∧ L j ≤ 1073741824) (t n : Int) : Calls Try.prog 12 #[.pointer (some ⟨p, 0, none⟩), .int .i64 t, .int .i64 n] w fun e w' =>
    ((¬ inA A t ∨ n < 0) ∧ e = .returned (.int .i64 1) ∧ w = w') ∨ (inA A t ∧ 0 ≤ n ∧ L t.toNat < n ∧ e = .returned (.int .i64 3) ∧ w = w') ∨
    (inA A t ∧ 0 ≤ n ∧ n ≤ L t.toNat ∧ e = .returned (.int .i64 0) ∧ LedAt w' p m A T (upd L t.toNat (L t.toNat - n)) ∧ Chg (fun k => ∃ j, j < A.length ∧ k = adr A j) w w') := by
  have c0 := h.cell
  have hl := run_lookup_place (P := Try.prog) Try.underlying23 Try.underlying3 zero_acc h.map t
  by_cases hin : 0 ≤ t ∧ t < A.length
  · rw [if_pos hin] at hl
    unfold ptr at hl
    obtain ⟨_, _, _, c3, f3⟩ := h.cells (j := t.toNat) (by omega)
    have hw := fun v => h.set (k := t.toNat) (by omega) v
    have hLt := hL t.toNat
    have HW := Lib.hid hw; clear hw hL
    have Hin := Lib.hid hin; clear hin h
    by_cases hn : n < 0
    · go_enter Try.func12, Try.ntmps12
      go_wp2_with (go_at_call 25; refine Calls.mono (there_yes c0) ?_; rintro e w' ⟨rfl, rfl⟩)
      go_ret
      exact .inl ⟨.inr hn, rfl, rfl⟩
    · by_cases hlt : L t.toNat < n
      · go_enter Try.func12, Try.ntmps12
        go_wp2_with (go_at_call 25; refine Calls.mono (there_yes c0) ?_; rintro e w' ⟨rfl, rfl⟩)
        go_ret
        exact .inr (.inl ⟨Hin.out, by omega, hlt, rfl, rfl⟩)
      · have hwr : IntKind.i64.wrap (L t.toNat - n) = L t.toNat - n := IntWalk.i64_in _ ⟨by omega, by omega⟩
        go_enter Try.func12, Try.ntmps12
        go_wp2_with (go_at_call 25; refine Calls.mono (there_yes c0) ?_; rintro e w' ⟨rfl, rfl⟩)
        go_ret
        exact .inr (.inr ⟨Hin.out, by omega, by omega, rfl, HW.out _, (Chg.refl _ _).setCell (.inr ⟨t.toNat, by have := Hin.out; omega, rfl⟩) _⟩)
  · rw [if_neg hin] at hl
    have Hin := Lib.hid hin; clear hin h
    go_enter Try.func12, Try.ntmps12
    go_wp2_with (go_at_call 25; refine Calls.mono (there_yes c0) ?_; rintro e w' ⟨rfl, rfl⟩)
    go_ret
    exact .inl ⟨.inl Hin.out, rfl, rfl⟩
end Go.Proofs.Ytdiabilcamomcaa
