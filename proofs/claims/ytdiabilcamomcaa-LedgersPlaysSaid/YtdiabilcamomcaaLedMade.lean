/- A ledger made and ticked, and what its calls answer in short. -/
import Derived.Test.YtdiabilcamomcaaLedNew
namespace Go.Proofs.Ytdiabilcamomcaa
open Go.RowKit
set_option linter.unusedVariables false
variable {w w' : World} {p m : Nat} {A : List Nat} {T : List Ten} {L : Nat → Int}
theorem left_in (h : LedAt w p m A T L) {t : Int} (ht : inA A t) : Calls Try.prog 24 #[.pointer (some ⟨p, 0, none⟩), .int .i64 t] w fun e w' => e = .returned (.int .i64 (L t.toNat)) ∧ w = w' := by
  have H := Lib.hid h; have HT := Lib.hid ht; clear h ht
  go_enter Try.func24, Try.ntmps24
  go_wp2_with fail
  refine Calls.mono (Left_yes H.out t) ?_
  rintro e w' ⟨rfl, ⟨_, rfl⟩ | ⟨hn, rfl⟩⟩
  · go_wp2_with fail
    go_ret
    exact ⟨rfl, rfl⟩
  · exact absurd HT.out hn
theorem left_out (h : LedAt w p m A T L) {t : Int} (ht : ¬ inA A t) : Calls Try.prog 24 #[.pointer (some ⟨p, 0, none⟩), .int .i64 t] w fun e w' => e = .returned (.int .i64 (-1)) ∧ w = w' := by
  have H := Lib.hid h; have HT := Lib.hid ht; clear h ht
  go_enter Try.func24, Try.ntmps24
  go_wp2_with fail
  refine Calls.mono (Left_yes H.out t) ?_
  rintro e w' ⟨rfl, ⟨hn, rfl⟩ | ⟨_, rfl⟩⟩
  · exact absurd hn HT.out
  · go_wp2_with fail
    go_ret
    exact ⟨rfl, rfl⟩
/-- What is left behind a tick. -/
def rates (T : List Ten) (j : Nat) : Int := (nth T j).rate
/-- A ledger made in this call, or none. -/
def Made (e : Ending) (w w' : World) (T : List Ten) : Prop :=
  (May T ∧ ∃ p m A, e = .returned (.pointer (some ⟨p, 0, none⟩)) ∧ LedAt w' p m A T (rates T) ∧ ∀ k, ledBlk p m A k → w.heap.size ≤ k) ∨ (¬ May T ∧ e = .returned (.pointer none))
theorem made_any {ao : Option Addr} {n cap : Nat} (h : Tens w ao n cap T) (hok : ∀ i, i < n → TenOk (nth T i)) : Calls Try.prog 23 #[.slice ao n cap] w fun e w' => Chg Non w w' ∧ Made e w w' T := by
  have H := Lib.hid h; have HO := Lib.hid hok; clear h hok
  go_enter Try.func23, Try.ntmps23
  go_wp2_with fail
  refine Calls.mono (New_any H.out HO.out) ?_
  rintro e w1 ⟨hc, ⟨hM, p, m, A, rfl, hl, hb⟩ | ⟨hM, rfl⟩⟩
  · have HC := Lib.hid hc; have HM := Lib.hid hM; have HL := Lib.hid hl; have HB := Lib.hid hb
    clear hc hM hl hb
    go_wp2_with fail
    refine Calls.mono (Tick_yes HL.out) ?_
    rintro e w2 ⟨rfl, hl, hc⟩
    have HL2 := Lib.hid hl; have HC2 := Lib.hid hc; clear hl hc
    go_wp2_with fail
    go_ret
    exact ⟨HC.out.next HC2.out fun i hi ⟨j, hj, e⟩ => by have := HB.out i (.inr (.inr ⟨j, hj, e⟩)); omega, .inl ⟨HM.out, _, _, _, rfl, HL2.out, HB.out⟩⟩
  · have HC := Lib.hid hc; have HM := Lib.hid hM
    clear hc hM
    go_wp2_with fail
    go_ret
    exact ⟨HC.out, .inr ⟨HM.out, rfl⟩⟩
def ann : Ten := ⟨{ data := #[97, 110, 110] }, { data := #[107] }, 5⟩
def bob : Ten := ⟨{ data := #[98, 111, 98] }, { data := #[107] }, 2⟩
def twoObj : Obj := .cells #[.string { data := #[97, 110, 110] }, .string { data := #[107] }, .int .i64 5, .string { data := #[98, 111, 98] }, .string { data := #[107] }, .int .i64 2] 28 (0, 0)
theorem two_any : Calls Try.prog 29 #[] w fun e w' => e = .returned (.slice (some ⟨w.heap.size, 0, none⟩) 2 2) ∧ w' = w.alloc twoObj := by
  go_enter Try.func29, Try.ntmps29
  go_wp2_with fail
  go_ret
  exact ⟨rfl, rfl⟩
theorem two_tens (hg : w.heap[p]? = some twoObj) : Tens w (some ⟨p, 0, none⟩) 2 2 [ann, bob] := by
  unfold twoObj at hg
  refine ⟨rfl, by omega, by decide, (fun h => by cases h), fun _ => ⟨p, 0, rfl, (Array.getElem?_eq_some_iff.1 hg).1, fun i hi => ?_⟩⟩
  match i, hi with
  | 0, _ => exact ⟨by rw [cell_of_row w p _ _ _ _ hg]; rfl, by rw [cell_of_row w p _ _ _ _ hg]; rfl, by rw [cell_of_row w p _ _ _ _ hg]; rfl⟩
  | 1, _ => exact ⟨by rw [cell_of_row w p _ _ _ _ hg]; rfl, by rw [cell_of_row w p _ _ _ _ hg]; rfl, by rw [cell_of_row w p _ _ _ _ hg]; rfl⟩
theorem name_bool (s : ByteArray) (h : s.size = 3) (h0 : badAt 0 (chr s 0) = false) (h1 : badAt 1 (chr s 1) = false) (h2 : badAt 2 (chr s 2) = false) (hw : hasN s words = false) : NameOk s := by
  refine ⟨fun i hi => ?_, fun e => by rw [e] at h; exact absurd h (by decide), by omega, hw⟩
  rw [h] at hi
  match i, hi with
  | 0, _ => exact h0
  | 1, _ => exact h1
  | 2, _ => exact h2
theorem may_ann : TenMay ann := ⟨name_bool _ rfl (by decide) (by decide) (by decide) (by decide), by decide, by decide, by decide⟩
theorem may_bob : TenMay bob := ⟨name_bool _ rfl (by decide) (by decide) (by decide) (by decide), by decide, by decide, by decide⟩
theorem may_two : May [ann, bob] := by
  refine ⟨by decide, by decide, fun i hi => ?_⟩
  match i, hi with
  | 0, _ => exact ⟨may_ann, fun k hk => by omega⟩
  | 1, _ => exact ⟨may_bob, fun k hk => by
      obtain rfl : k = 0 := by omega
      decide⟩
theorem ok_two : ∀ i, i < 2 → TenOk (nth [ann, bob] i) := by
  intro i hi
  match i, hi with
  | 0, _ => exact ⟨by decide, by decide, by decide⟩
  | 1, _ => exact ⟨by decide, by decide, by decide⟩
theorem not_may_nil : ¬ May [] := fun h => by have := h.1; simp at this
theorem not_may_twice : ¬ May [ann, bob, ann] := fun h => by
  have := (h.2.2 2 (by decide)).2 0 (by omega)
  exact this rfl
theorem left_v (h : LedAt w p m A T L) {t : Int} (ht : inA A t) {v : Int} (hv : L t.toNat = v) : Calls Try.prog 24 #[.pointer (some ⟨p, 0, none⟩), .int .i64 t] w fun e w' => e = .returned (.int .i64 v) ∧ w = w' := by
  rw [← hv]; exact left_in h ht
/-- Nothing is left that can be below 0, or too much. -/
def LOk (L : Nat → Int) : Prop := ∀ j, 0 ≤ L j ∧ L j ≤ 1073741824
theorem spend_arg (h : LedAt w p m A T L) (hL : LOk L) {t n : Int} (ht : ¬ inA A t ∨ n < 0) : Calls Try.prog 12 #[.pointer (some ⟨p, 0, none⟩), .int .i64 t, .int .i64 n] w fun e w' => e = .returned (.int .i64 1) ∧ w = w' := by
  refine Calls.mono (Spend_yes h hL t n) ?_
  rintro e w' (⟨_, rfl, rfl⟩ | ⟨h1, h2, _⟩ | ⟨h1, h2, _⟩)
  · exact ⟨rfl, rfl⟩
  · rcases ht with ht | ht
    · exact absurd h1 ht
    · omega
  · rcases ht with ht | ht
    · exact absurd h1 ht
    · omega
theorem spend_limit (h : LedAt w p m A T L) (hL : LOk L) {t n : Int} (ht : inA A t) (hn : 0 ≤ n) (hlt : L t.toNat < n) : Calls Try.prog 12 #[.pointer (some ⟨p, 0, none⟩), .int .i64 t, .int .i64 n] w fun e w' => e = .returned (.int .i64 3) ∧ w = w' := by
  refine Calls.mono (Spend_yes h hL t n) ?_
  rintro e w' (⟨h1 | h1, _⟩ | ⟨_, _, _, rfl, rfl⟩ | ⟨_, _, h3, _⟩)
  · exact absurd ht h1
  · omega
  · exact ⟨rfl, rfl⟩
  · omega
theorem spend_ok (h : LedAt w p m A T L) (hL : LOk L) {t n : Int} (ht : inA A t) (hn : 0 ≤ n) (hle : n ≤ L t.toNat) : Calls Try.prog 12 #[.pointer (some ⟨p, 0, none⟩), .int .i64 t, .int .i64 n] w fun e w' => e = .returned (.int .i64 0) ∧ LedAt w' p m A T (upd L t.toNat (L t.toNat - n)) ∧ Chg (fun k => ∃ j, j < A.length ∧ k = adr A j) w w' := by
  refine Calls.mono (Spend_yes h hL t n) ?_
  rintro e w' (⟨h1 | h1, _⟩ | ⟨_, _, h3, _⟩ | ⟨_, _, _, rfl, h4, h5⟩)
  · exact absurd ht h1
  · omega
  · omega
  · exact ⟨rfl, h4, h5⟩
theorem New_may {ao : Option Addr} {n cap : Nat} (h : Tens w ao n cap T) (hok : ∀ i, i < n → TenOk (nth T i)) (hM : May T) : Calls Try.prog 15 #[.slice ao n cap] w fun e w' => Chg Non w w' ∧
    ∃ p m A, e = .returned (.tuple #[.pointer (some ⟨p, 0, none⟩), .int .i64 0]) ∧ LedAt w' p m A T (fun _ => 0) ∧ ∀ k, ledBlk p m A k → w.heap.size ≤ k := by
  refine Calls.mono (New_any h hok) ?_
  rintro e w' ⟨hc, ⟨_, h⟩ | ⟨hn, _⟩⟩
  · exact ⟨hc, h⟩
  · exact absurd hM hn
theorem New_not {ao : Option Addr} {n cap : Nat} (h : Tens w ao n cap T) (hok : ∀ i, i < n → TenOk (nth T i)) (hM : ¬ May T) : Calls Try.prog 15 #[.slice ao n cap] w fun e w' => e = .returned (.tuple #[.pointer none, .int .i64 1]) ∧ Chg Non w w' := by
  refine Calls.mono (New_any h hok) ?_
  rintro e w' ⟨hc, ⟨hn, _⟩ | ⟨_, rfl⟩⟩
  · exact absurd hn hM
  · exact ⟨rfl, hc⟩
theorem Try.info_ten : (Try.prog.info? 28).map (fun i => (i.zero, i.size, i.bytes)) = some (some (.agg #[.string { data := #[] }, .string { data := #[] }, .int .i64 0]), 3, 40) := by kernel_rfl
theorem tens3 {ao : Option Addr} {cap B : Nat} (h : Own w B 28 3 ao 3 cap [.string { data := #[97, 110, 110] }, .string { data := #[107] }, .int .i64 5, .string { data := #[98, 111, 98] }, .string { data := #[107] }, .int .i64 2, .string { data := #[97, 110, 110] }, .string { data := #[107] }, .int .i64 5]) :
    Tens w ao 3 cap [ann, bob, ann] := by
  have hle := h.le
  obtain ⟨g, rfl, _, hg, _, hc, _⟩ := h.form (by omega)
  refine ⟨rfl, hle.1, hle.2, (fun h => by cases h), fun _ => ⟨g, 0, rfl, hg, fun i hi => ?_⟩⟩
  match i, hi with
  | 0, _ => exact ⟨hc 0 (by omega), hc 1 (by omega), hc 2 (by omega)⟩
  | 1, _ => exact ⟨hc 3 (by omega), hc 4 (by omega), hc 5 (by omega)⟩
  | 2, _ => exact ⟨hc 6 (by omega), hc 7 (by omega), hc 8 (by omega)⟩
theorem ok_three : ∀ i, i < 3 → TenOk (nth [ann, bob, ann] i) := by
  intro i hi
  match i, hi with
  | 0, _ => exact ⟨by decide, by decide, by decide⟩
  | 1, _ => exact ⟨by decide, by decide, by decide⟩
  | 2, _ => exact ⟨by decide, by decide, by decide⟩
theorem tens_nil (w : World) : Tens w none 0 0 [] := ⟨rfl, Nat.le_refl _, Nat.zero_le _, fun _ => rfl, fun h => by omega⟩
theorem lok_two : LOk (rates [ann, bob]) := by
  intro j
  match j with
  | 0 => decide
  | 1 => decide
  | j + 2 => exact ⟨by show (0 : Int) ≤ (nth [ann, bob] (j + 2)).rate; simp [nth, tz], by show (nth [ann, bob] (j + 2)).rate ≤ 1073741824; simp [nth, tz]⟩
theorem LOk.upd {L : Nat → Int} (h : LOk L) {k : Nat} {v : Int} (h0 : 0 ≤ v) (h1 : v ≤ 1073741824) : LOk (upd L k v) := by
  intro j
  unfold Go.Proofs.Ytdiabilcamomcaa.upd
  split
  · exact ⟨h0, h1⟩
  · exact h j
theorem lok_two2 : LOk (upd (rates [ann, bob]) 0 2) := lok_two.upd (by omega) (by omega)
theorem find_bob {A : List Nat} (hA : A.length = 2) {e : Ending} (h : (∃ j, j < A.length ∧ (nth [ann, bob] j).name = { data := #[98, 111, 98] } ∧ e = .returned (.tuple #[(nth [ann, bob] j).val, .int .i64 (j : Int), .int .i64 0])) ∨ ((∀ j, j < A.length → (nth [ann, bob] j).name ≠ { data := #[98, 111, 98] }) ∧ e = .returned (.tuple #[tz.val, .int .i64 0, .int .i64 6]))) :
    e = .returned (.tuple #[bob.val, .int .i64 1, .int .i64 0]) := by
  rcases h with ⟨j, hj, hn, rfl⟩ | ⟨hn, _⟩
  · rw [hA] at hj
    match j, hj with
    | 0, _ => exact absurd hn (by decide)
    | 1, _ => rfl
  · exact absurd rfl (hn 1 (by omega))
theorem find_eve {A : List Nat} (hA : A.length = 2) {e : Ending} (h : (∃ j, j < A.length ∧ (nth [ann, bob] j).name = { data := #[101, 118, 101] } ∧ e = .returned (.tuple #[(nth [ann, bob] j).val, .int .i64 (j : Int), .int .i64 0])) ∨ ((∀ j, j < A.length → (nth [ann, bob] j).name ≠ { data := #[101, 118, 101] }) ∧ e = .returned (.tuple #[tz.val, .int .i64 0, .int .i64 6]))) :
    e = .returned (.tuple #[tz.val, .int .i64 0, .int .i64 6]) := by
  rcases h with ⟨j, hj, hn, rfl⟩ | ⟨_, rfl⟩
  · rw [hA] at hj
    match j, hj with
    | 0, _ => exact absurd hn (by decide)
    | 1, _ => exact absurd hn (by decide)
  · rfl
end Go.Proofs.Ytdiabilcamomcaa
