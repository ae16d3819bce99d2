/- The two maps that a ledger is made of: places to accounts, names to numbers: what they look like, what a lookup, a store and a step over them give. -/
import Derived.Test.YtdiabilcamomcaaRows
import Derived.Test.YtdiabilcamomcaaLib
import Derived.WalkLawsBesides
import Derived.WalkSpells
import Derived.Maps.RangeRun
namespace Go.Proofs.Ytdiabilcamomcaa
open Go.RowKit
set_option linter.unusedVariables false
def ptr (a : Nat) : Value := .pointer (some ⟨a, 0, none⟩)
/-- Entries at the places i, i + 1 ..: accounts. -/
def ient : Nat → List Nat → List MapEntry
  | _, [] => []
  | i, a :: l => ⟨.int .i64 i, ptr a, i⟩ :: ient (i + 1) l
/-- Entries at names. -/
def nent : Nat → List ByteArray → List MapEntry
  | _, [] => []
  | i, a :: l => ⟨.string a, .int .i64 1, i⟩ :: nent (i + 1) l
def adr (A : List Nat) (j : Nat) : Nat := A.getD j 0
def hasN (s : ByteArray) (l : List ByteArray) : Bool := l.any fun a => s == a
theorem ient_append (l : List Nat) (a : Nat) : ∀ i, ient i (l ++ [a]) = ient i l ++ [⟨.int .i64 ((i + l.length : Nat) : Int), ptr a, i + l.length⟩] := by
  induction l with
  | nil => intro i; rfl
  | cons b l ih =>
    intro i
    simp only [List.cons_append, ient, ih (i + 1), List.length_cons]
    rw [show i + 1 + l.length = i + (l.length + 1) by omega]
theorem nent_append (l : List ByteArray) (a : ByteArray) : ∀ i, nent i (l ++ [a]) = nent i l ++ [⟨.string a, .int .i64 1, i + l.length⟩] := by
  induction l with
  | nil => intro i; rfl
  | cons b l ih =>
    intro i
    simp only [List.cons_append, nent, ih (i + 1), List.length_cons]
    rw [show i + 1 + l.length = i + (l.length + 1) by omega]
theorem ient_mem {e : MapEntry} : ∀ {l : List Nat} {i : Nat}, e ∈ ient i l ↔ ∃ j, j < l.length ∧ e = ⟨.int .i64 ((i + j : Nat) : Int), ptr (l.getD j 0), i + j⟩ := by
  intro l
  induction l with
  | nil => intro i; simp [ient]
  | cons a l ih =>
    intro i
    simp only [ient, List.mem_cons, ih]
    constructor
    · rintro (rfl | ⟨j, hj, rfl⟩)
      · exact ⟨0, by simp, by simp⟩
      · refine ⟨j + 1, by simpa using hj, ?_⟩
        rw [show i + 1 + j = i + (j + 1) by omega]
        simp
    · rintro ⟨j, hj, rfl⟩
      cases j with
      | zero => left; simp
      | succ j =>
        right
        refine ⟨j, by simpa using hj, ?_⟩
        rw [show i + 1 + j = i + (j + 1) by omega]
        simp
theorem ient_born (l : List Nat) : ∀ i, (ient i l).map (·.born) = List.range' i l.length := by
  induction l with
  | nil => intro i; rfl
  | cons a l ih => intro i; simp [ient, ih, List.range'_succ]
theorem ient_nodup (l : List Nat) (i : Nat) : ((ient i l).map (·.born)).Nodup := by rw [ient_born]; exact List.nodup_range'
theorem ient_length (l : List Nat) (i : Nat) : (ient i l).length = l.length := by
  have := congrArg List.length (ient_born l i)
  simpa using this
theorem find_ient {t : Int} : ∀ (l : List Nat) (i k : Nat), Instr.findNow (.int .i64) (.int .i64 t) (ient i l) k =
    some (if (i : Int) ≤ t ∧ t < i + l.length then some (k + (t.toNat - i), ptr (l.getD (t.toNat - i) 0)) else none) := by
  intro l
  induction l with
  | nil =>
    intro i k
    have hno : ¬ ((i : Int) ≤ t ∧ t < i + ([] : List Nat).length) := by simp only [List.length_nil]; omega
    rw [if_neg hno]
    rfl
  | cons a l ih =>
    intro i k
    simp only [ient, Instr.findNow, Instr.sameNow, if_true]
    by_cases ht : t = i
    · subst ht
      have : (((i : Int) ≤ (i : Int)) ∧ ((i : Int) < i + (a :: l).length)) := by simp only [List.length_cons]; omega
      rw [if_pos this]
      simp
    · have hb : (t == (i : Int)) = false := by simpa using ht
      rw [hb]
      simp only [ih (i + 1) (k + 1)]
      by_cases hin : (i : Int) ≤ t ∧ t < i + (a :: l).length
      · have h2 : (((i + 1 : Nat) : Int) ≤ t ∧ t < ((i + 1 : Nat) : Int) + l.length) := by simp only [List.length_cons] at hin; omega
        rw [if_pos hin, if_pos h2]
        have e1 : t.toNat - i = (t.toNat - (i + 1)) + 1 := by omega
        rw [e1, List.getD_cons_succ]
        congr 3
        omega
      · have h2 : ¬ (((i + 1 : Nat) : Int) ≤ t ∧ t < ((i + 1 : Nat) : Int) + l.length) := by simp only [List.length_cons] at hin; omega
        rw [if_neg hin, if_neg h2]
theorem find_nent {s : ByteArray} : ∀ (l : List ByteArray) (i k : Nat), ∃ q, Instr.findNow .string (.string s) (nent i l) k = some (if hasN s l then some (q, .int .i64 1) else none) := by
  intro l
  induction l with
  | nil => intro i k; exact ⟨0, by simp [nent, Instr.findNow, hasN]⟩
  | cons a l ih =>
    intro i k
    obtain ⟨q, hq⟩ := ih (i + 1) (k + 1)
    cases h : (s == a) with
    | true => exact ⟨k, by simp [nent, Instr.findNow, Instr.sameNow, h, hasN]⟩
    | false =>
      refine ⟨q, ?_⟩
      simp only [nent, Instr.findNow, Instr.sameNow, h, hq, hasN, List.any_cons, Bool.false_or]
      rfl
variable {P : Program}
theorem check_place {k : TypeId} (hk : P.underlying k = some (.int .i64)) (b : Bool) (n : Nat) (i : Int) (w : World) : (Instr.checkKey b (n + 1) k (.int .i64 i)).run P w = .ok () w := by
  simp [Instr.checkKey, run_underlying hk]
theorem check_name {k : TypeId} (hk : P.underlying k = some .string) (b : Bool) (n : Nat) (s : ByteArray) (w : World) : (Instr.checkKey b (n + 1) k (.string s)).run P w = .ok () w := by
  simp [Instr.checkKey, run_underlying hk]
theorem run_lookup_place {t k e : TypeId} {z : Value} (ht : P.underlying t = some (.map k e)) (hk : P.underlying k = some (.int .i64)) (hz : ∀ w, (zeroValue e).run P w = .ok z w) {w : World} {m c : Nat} {A : List Nat} (hb : w.heap[m]? = some (.map (ient 0 A).toArray c)) (i : Int) :
    (Instr.lookup t (.map (some m)) (.int .i64 i) true).run P w = .ok (if 0 ≤ i ∧ i < A.length then .tuple #[ptr (adr A i.toNat), .bool true] else .tuple #[z, .bool false]) w := by
  unfold adr
  have hf := find_ient (t := i) A 0 0
  simp only [Instr.lookup, Instr.findKey, run_underlying ht, run_underlying hk, Sem.run_bind, MapKept.run_getObj_map hb, Result.andThen_ok, Sem.run_pure]
  have hc : (Instr.checkKey (ient 0 A).toArray.isEmpty 10000 k (.int .i64 i)).run P w = .ok () w := check_place hk _ 9999 _ w
  simp only [hc, Result.andThen_ok, hf]
  have e0 : ((0 : Nat) : Int) ≤ i ∧ i < ((0 : Nat) : Int) + A.length ↔ 0 ≤ i ∧ i < A.length := by omega
  by_cases h : 0 ≤ i ∧ i < A.length
  · rw [if_pos (e0.2 h), if_pos h]
    simp only [Nat.sub_zero, Sem.run_bind, Sem.run_pure, Result.andThen_ok, if_true]
  · rw [if_neg (fun h' => h (e0.1 h')), if_neg h]
    simp [hz]
theorem run_lookup_name {t k e : TypeId} (ht : P.underlying t = some (.map k e)) (hk : P.underlying k = some .string) (hz : ∀ w, (zeroValue e).run P w = .ok (.int .i64 0) w) {w : World} {m c : Nat} {A : List ByteArray} (hb : w.heap[m]? = some (.map (nent 0 A).toArray c)) (s : ByteArray) :
    (Instr.lookup t (.map (some m)) (.string s) false).run P w = .ok (.int .i64 (if hasN s A then 1 else 0)) w := by
  obtain ⟨q, hf⟩ := find_nent (s := s) A 0 0
  simp only [Instr.lookup, Instr.findKey, run_underlying ht, run_underlying hk, Sem.run_bind, MapKept.run_getObj_map hb, Result.andThen_ok, Sem.run_pure]
  have hc : (Instr.checkKey (nent 0 A).toArray.isEmpty 10000 k (.string s)).run P w = .ok () w := check_name hk _ 9999 _ w
  simp only [hc, Result.andThen_ok, hf]
  cases h : hasN s A with
  | true => simp
  | false => simp [hz]
theorem run_update_place {t k e : TypeId} (ht : P.underlying t = some (.map k e)) (hk : P.underlying k = some (.int .i64)) {w : World} {m : Nat} {A : List Nat} (hb : w.heap[m]? = some (.map (ient 0 A).toArray A.length)) (a : Nat) :
    (Instr.mapUpdate t (.map (some m)) (.int .i64 (A.length : Int)) (ptr a)).run P w = .ok () (ChangeMaps.setBlock w m (.map (ient 0 (A ++ [a])).toArray (A ++ [a]).length)) := by
  have hf := find_ient (t := (A.length : Int)) A 0 0
  rw [if_neg (by omega)] at hf
  simp only [Instr.mapUpdate, Instr.findKey, run_underlying ht, run_underlying hk, Sem.run_bind, MapKept.run_getObj_map hb, Result.andThen_ok]
  have hc : (Instr.checkKey false 10000 k (.int .i64 (A.length : Int))).run P w = .ok () w := check_place hk _ 9999 _ w
  simp only [hc, Result.andThen_ok, hf, Sem.run_pure, MapKept.run_setObj_map _ hb, ChangeMaps.setBlock, ient_append]
  simp
theorem run_update_name {t k e : TypeId} (ht : P.underlying t = some (.map k e)) (hk : P.underlying k = some .string) {w : World} {m : Nat} {A : List ByteArray} (hb : w.heap[m]? = some (.map (nent 0 A).toArray A.length)) {s : ByteArray} (hs : hasN s A = false) :
    (Instr.mapUpdate t (.map (some m)) (.string s) (.int .i64 1)).run P w = .ok () (ChangeMaps.setBlock w m (.map (nent 0 (A ++ [s])).toArray (A ++ [s]).length)) := by
  obtain ⟨q, hf⟩ := find_nent (s := s) A 0 0
  simp only [hs, Bool.false_eq_true, if_false] at hf
  simp only [Instr.mapUpdate, Instr.findKey, run_underlying ht, run_underlying hk, Sem.run_bind, MapKept.run_getObj_map hb, Result.andThen_ok]
  have hc : (Instr.checkKey false 10000 k (.string s)).run P w = .ok () w := check_name hk _ 9999 _ w
  simp only [hc, Result.andThen_ok, hf, Sem.run_pure, MapKept.run_setObj_map _ hb, ChangeMaps.setBlock, nent_append]
  simp
/-- A step over the places' map: none is left, or one that has not come comes, whichever. -/
theorem run_next_place {w : World} (ty : TypeId) {r m c0 : Nat} {seen : Array Nat} {A : List Nat} (hr : w.heap[r]? = some (.mapIter (some m) A.length seen c0)) (hb : w.heap[m]? = some (.map (ient 0 A).toArray A.length)) (hc : A.length ≤ c0) :
    ((∀ j, j < A.length → seen.contains j = true) ∧ (Instr.next (.pointer (some ⟨r, 0, none⟩)) false ty).run P w = .ok (.tuple #[.bool false]) w) ∨
    ∃ j, j < A.length ∧ seen.contains j = false ∧ ∃ w1 : World, (w1 = w ∨ w1 = w.drew) ∧ (leftOf (ient 0 A).toArray (seen.push j)).size < (leftOf (ient 0 A).toArray seen).size ∧
      (Instr.next (.pointer (some ⟨r, 0, none⟩)) false ty).run P w = .ok (.tuple #[.bool true, .int .i64 (j : Int), ptr (adr A j)]) (ChangeMaps.setBlock w1 r (.mapIter (some m) A.length (seen.push j) A.length)) ∧
      (Instr.entry (.pointer (some ⟨r, 0, none⟩))).run P (ChangeMaps.setBlock w1 r (.mapIter (some m) A.length (seen.push j) A.length)) = .ok (.tuple #[.int .i64 (j : Int), ptr (adr A j)]) (ChangeMaps.setBlock w1 r (.mapIter (some m) A.length (seen.push j) A.length)) := by
  unfold adr
  have hold : ∀ x ∈ (ient 0 A).toArray.toList, x.born < A.length := by
    intro x hx
    obtain ⟨j, hj, rfl⟩ := ient_mem.1 (by simpa using hx)
    simpa using hj
  have hrm : r ≠ m := by rintro rfl; rw [hr] at hb; cases hb
  rcases run_next_at (P := P) w ty r m A.length c0 seen _ A.length hr hb hold hc with ⟨h0, hrun⟩ | ⟨e, he, w1, hw1, hrun⟩
  · left
    refine ⟨fun j hj => ?_, hrun⟩
    have := all_seen _ seen h0 ⟨.int .i64 ((0 + j : Nat) : Int), ptr (A.getD j 0), 0 + j⟩ (by simpa using ient_mem (i := 0).2 ⟨j, hj, rfl⟩)
    simpa using this
  · right
    have hs := left_shrinks _ seen e he
    obtain ⟨hem, hes⟩ := mem_left he
    obtain ⟨j, hj, rfl⟩ := ient_mem.1 (by simpa using hem)
    simp only [Nat.zero_add] at hs hes hrun
    refine ⟨j, hj, hes, w1, hw1, hs, hrun, ?_⟩
    have hr1 : w1.heap[r]? = some (.mapIter (some m) A.length seen c0) := by rcases hw1 with rfl | rfl <;> exact hr
    have hb1 : w1.heap[m]? = some (.map (ient 0 A).toArray A.length) := by rcases hw1 with rfl | rfl <;> exact hb
    have hset := MapKept.heap_set (o' := .mapIter (some m) A.length (seen.push j) A.length) hr1
    exact run_entry_at (P := P) _ r m A.length seen (ient 0 A).toArray A.length ⟨.int .i64 ((0 + j : Nat) : Int), ptr (A.getD j 0), 0 + j⟩ (by rw [Nat.zero_add]; exact hset.1) ((hset.2 m (fun e => hrm e.symm)).trans hb1) (by simpa using ient_mem (i := 0).2 ⟨j, hj, rfl⟩) (by simpa using ient_nodup A 0) |>.trans (by simp)
end Go.Proofs.Ytdiabilcamomcaa
