/- Whatever is done with a ledger: each answer is the document's. -/
import Derived.Test.YtdiabilcamomcaaLedRefNew
import Derived.Test.YtdiabilcamomcaaLedLeft
import Derived.Test.YtdiabilcamomcaaLedFinds
import Derived.Lib.SmallJoins
import Derived.Deep.RegionHeld3
namespace Go.Proofs.Ytdiabilcamomcaa
open Go.ChangeShapes Go.WideShapes Go.ChangeAt Go.RowKit Go.Deep
set_option linter.unusedVariables false
set_option linter.unusedSimpArgs false
variable {w w' : World} {p m q g n cap : Nat} {A : List Nat} {ao : Option Addr} {T : List Ten} {L : Nat → Int}
/-- An act: its kind, its tenant, its number, its name. -/
def PlayAt (w : World) (b o : Nat) : Prop := ∃ (kd : Nat) (t z : Int) (s : ByteArray), kd < 256 ∧ w.cell? ⟨b, o, none⟩ = some (.int .u8 (kd : Int)) ∧ w.cell? ⟨b, o + 1, none⟩ = some (.int .i64 t) ∧ w.cell? ⟨b, o + 2, none⟩ = some (.int .i64 z) ∧ w.cell? ⟨b, o + 3, none⟩ = some (.string s)
def Plays (w : World) (ao : Option Addr) (n cap : Nat) : Prop := n ≤ cap ∧ cap ≤ maxLen ∧ (0 < cap → ∃ b off, ao = some ⟨b, off, none⟩ ∧ b < w.heap.size ∧ ∀ i, i < n → PlayAt w b (off + i * 4))
theorem PlayAt.chg {S : Nat → Prop} {b o : Nat} (h : PlayAt w b o) (hc : Chg S w w') (hb : b < w.heap.size) (hn : ¬ S b) : PlayAt w' b o := by
  obtain ⟨kd, t, z, s, h0, h1, h2, h3, h4⟩ := h
  exact ⟨kd, t, z, s, h0, (hc.cell (p := ⟨b, o, none⟩) hb hn).trans h1, (hc.cell (p := ⟨b, o + 1, none⟩) hb hn).trans h2, (hc.cell (p := ⟨b, o + 2, none⟩) hb hn).trans h3, (hc.cell (p := ⟨b, o + 3, none⟩) hb hn).trans h4⟩
theorem list4 {l : List Value} (h : l.length = 4) : ∃ c0 c1 c2 c3, l = [c0, c1, c2, c3] := by
  match l, h with
  | [c0, c1, c2, c3], _ => exact ⟨c0, c1, c2, c3, rfl⟩
theorem open_plays {H : Type} {enc : TypeId × Value → H} {held : Bool} {len : Nat} {d : DataW H} {pl : List MemPlace}
    (h : DataW.Trod enc Try.prog w 0 (fun _ => true) held 38 (.slice ao len cap) d pl) : Plays w ao len cap := by
  obtain ⟨fuel, hf⟩ := h
  have hcells : Try.prog.cellsOf 48 = 4 := by kernel_rfl
  rcases open_slice Try.underlying38 hf with ⟨hcs, _⟩ | ⟨x, l, c, mm, n, D, Pl, hcs, _, hl, hm, hmm, _, hel⟩
  · simp [Value.cells] at hcs
    obtain ⟨rfl, rfl, rfl⟩ := hcs
    exact ⟨Nat.le_refl _, Nat.zero_le _, fun h => by omega⟩
  · simp [Value.cells] at hcs
    obtain ⟨rfl, rfl, rfl⟩ := hcs
    refine ⟨hl, hm, fun hp => ?_⟩
    simp only [if_true] at hmm
    subst hmm
    rw [hcells] at hel
    have hcell : ∀ i, i < mm → ∃ c0 c1 c2 c3 y0 y1 y2 y3 n', w.cell? (x.add (i * 4)) = some c0 ∧ w.cell? ((x.add (i * 4)).add 1) = some c1 ∧ w.cell? ((x.add (i * 4)).add 2) = some c2 ∧ w.cell? ((x.add (i * 4)).add 3) = some c3 ∧
        DataW.trod enc Try.prog w 0 (fun _ => true) held n' 5 [c0] = some y0 ∧ DataW.trod enc Try.prog w 0 (fun _ => true) held n' 3 [c1] = some y1 ∧ DataW.trod enc Try.prog w 0 (fun _ => true) held n' 3 [c2] = some y2 ∧ DataW.trod enc Try.prog w 0 (fun _ => true) held n' 9 [c3] = some y3 := by
      intro i hi
      obtain ⟨cs', h1, h2⟩ := hel i hi
      obtain ⟨_, hlen, hc⟩ := World.cells?_some h1
      obtain ⟨y0, y1, y2, y3, n', _, _, t0, t1, t2, t3⟩ := Go.Joins.trod_struct4 Try.underlying48 h2
      obtain ⟨c0, c1, c2, c3, rfl⟩ := list4 hlen
      · refine ⟨c0, c1, c2, c3, y0, y1, y2, y3, n', by simpa [Addr.add] using hc 0 (by omega), by simpa using hc 1 (by omega), by simpa using hc 2 (by omega), by simpa using hc 3 (by omega), ?_, ?_, ?_, ?_⟩
        · have e : Try.prog.cellsOf 5 = 1 := by kernel_rfl
          rw [e] at t0; simpa using t0
        · have e : Try.prog.cellsOf 3 = 1 := by kernel_rfl
          rw [e] at t1; simpa using t1
        · have e : Try.prog.cellsOf 3 = 1 := by kernel_rfl
          rw [e] at t2; simpa using t2
        · have e : Try.prog.cellsOf 9 = 1 := by kernel_rfl
          rw [e] at t3; simpa using t3
    obtain ⟨c0, _, _, _, _, _, _, _, _, h0, _⟩ := hcell 0 hp
    obtain ⟨b, off, spot⟩ := x
    have hspot : spot = none := by simpa [Addr.add] using World.cell?_spot h0
    subst hspot
    refine ⟨b, off, rfl, by simpa [Addr.add] using World.block_lt_of_cell? w _ h0, fun i hi => ?_⟩
    obtain ⟨c0, c1, c2, c3, y0, y1, y2, y3, n', h0, h1, h2, h3, t0, t1, t2, t3⟩ := hcell i (by omega)
    rw [Addr.add_lit] at h0
    rw [Addr.add_lit, Addr.add_lit] at h1 h2 h3
    obtain ⟨kd, e0, _, w0⟩ := DataW.trod_int Try.underlying5 t0
    obtain ⟨t, e1, _, w1⟩ := DataW.trod_int Try.underlying3 t1
    obtain ⟨z, e2, _, w2⟩ := DataW.trod_int Try.underlying3 t2
    obtain ⟨s, e3, _, w3⟩ := DataW.trod_string Try.underlying9 t3
    simp at e0 e1 e2 e3
    subst e0 e1 e2 e3
    have hkd : 0 ≤ kd ∧ kd ≤ 255 := by
      simp [Lit.wf, IntKind.min, IntKind.max] at w0
      first | omega | (simp [IntKind.signed, IntKind.bits] at w0; omega)
    exact ⟨kd.toNat, t, z, s, by omega, by rw [h0]; congr 2; omega, h1, h2, h3⟩
/-- What spending answers, and what is left then. -/
def spz (n : Nat) (L : Nat → Int) (t z : Int) : Int := if ¬ (0 ≤ t ∧ t < n) ∨ z < 0 then 1 else if L t.toNat < z then 3 else 0
def spL (n : Nat) (L : Nat → Int) (t z : Int) : Nat → Int := if spz n L t z = 0 then upd L t.toNat (L t.toNat - z) else L
theorem spL_ok (h : LOk L) (t z : Int) : LOk (spL n L t z) := by
  unfold spL
  split
  · rename_i e
    unfold spz at e
    split at e
    · cases e
    · split at e
      · cases e
      · rename_i h1 h2
        have := h t.toNat
        exact h.upd (by omega) (by omega)
  · exact h
theorem spend_det (h : LedAt w p m A T L) (hL : LOk L) (hA : A.length = n) (t z : Int) : Calls Try.prog 12 #[.pointer (some ⟨p, 0, none⟩), .int .i64 t, .int .i64 z] w fun e w' =>
    e = .returned (.int .i64 (spz n L t z)) ∧ LedAt w' p m A T (spL n L t z) ∧ Chg (fun k => ∃ j, j < A.length ∧ k = adr A j) w w' := by
  subst hA
  refine Calls.mono (Spend_yes h hL t z) ?_
  rintro e w' (⟨h1, rfl, rfl⟩ | ⟨h1, h2, h3, rfl, rfl⟩ | ⟨h1, h2, h3, rfl, h4, h5⟩)
  · have e1 : spz A.length L t z = 1 := if_pos h1
    refine ⟨by rw [e1], ?_, Chg.refl _ _⟩
    unfold spL
    rw [e1, if_neg (by decide)]
    exact h
  · have e1 : spz A.length L t z = 3 := by
      unfold spz
      rw [if_neg (fun hh => hh.elim (fun hn => hn h1) (fun hn => by omega)), if_pos h3]
    refine ⟨by rw [e1], ?_, Chg.refl _ _⟩
    unfold spL
    rw [e1, if_neg (by decide)]
    exact h
  · have e1 : spz A.length L t z = 0 := by
      unfold spz
      rw [if_neg (fun hh => hh.elim (fun hn => hn h1) (fun hn => by omega)), if_neg (by omega)]
    refine ⟨by rw [e1], ?_, h5⟩
    unfold spL
    rw [e1, if_pos rfl]
    exact h4
theorem refSpend_det (h : RefAt w q g ao n cap T L) (hL : LOk L) (t z : Int) : Calls Try.prog 19 #[.pointer (some ⟨q, 0, none⟩), .int .i64 t, .int .i64 z] w fun e w' =>
    e = .returned (.int .i64 (spz n L t z)) ∧ RefAt w' q g ao n cap T (spL n L t z) ∧ Chg (fun k => k = g) w w' := by
  refine Calls.mono (refSpend_any h hL t z) ?_
  rintro e w' (⟨h1, rfl, rfl⟩ | ⟨h1, h2, h3, rfl, rfl⟩ | ⟨h1, h2, h3, rfl, h4, h5⟩)
  · have e1 : spz n L t z = 1 := if_pos h1
    refine ⟨by rw [e1], ?_, Chg.refl _ _⟩
    unfold spL
    rw [e1, if_neg (by decide)]
    exact h
  · have e1 : spz n L t z = 3 := by
      unfold spz
      rw [if_neg (fun hh => hh.elim (fun hn => hn h1) (fun hn => by omega)), if_pos h3]
    refine ⟨by rw [e1], ?_, Chg.refl _ _⟩
    unfold spL
    rw [e1, if_neg (by decide)]
    exact h
  · have e1 : spz n L t z = 0 := by
      unfold spz
      rw [if_neg (fun hh => hh.elim (fun hn => hn h1) (fun hn => by omega)), if_neg (by omega)]
    refine ⟨by rw [e1], ?_, h5⟩
    unfold spL
    rw [e1, if_pos rfl]
    exact h4
theorem RefAt.chg {S : Nat → Prop} (h : RefAt w q g ao n cap T L) (hc : Chg S w w') (hq : ¬ S q) (hg : ¬ S g) (ha : ∀ a, ao = some a → ¬ S a.block) : RefAt w' q g ao n cap T L := by
  refine ⟨(hc.block _ (Array.getElem?_eq_some_iff.1 h.head).1 hq).trans h.head, (hc.block _ (Array.getElem?_eq_some_iff.1 h.left).1 hg).trans h.left, ?_, h.pos, h.apart⟩
  obtain ⟨t1, t2, t3, t4, t5⟩ := h.tens
  refine ⟨t1, t2, t3, t4, fun hp => ?_⟩
  obtain ⟨b, off, rfl, hb, hcell⟩ := t5 hp
  exact ⟨b, off, rfl, Nat.lt_of_lt_of_le hb hc.size, fun i hi => (hcell i hi).chg hc hb (ha _ rfl)⟩
/-- What lies apart: the ledger's blocks from the document's, and from what came in. -/
structure LedSep (B p m q g : Nat) (A : List Nat) (ao : Option Addr) (n : Nat) : Prop where
  led : ∀ k, ledBlk p m A k → B ≤ k ∧ k ≠ q ∧ k ≠ g
  hq : B ≤ q
  hg : B ≤ g
  ha : ∀ a, ao = some a → a.block < B
  len : A.length = n
def AdrS (A : List Nat) (k : Nat) : Prop := ∃ j, j < A.length ∧ k = adr A j
theorem LedSep.led_g {B : Nat} (s : LedSep B p m q g A ao n) (h : LedAt w p m A T L) (hc : Chg (fun k => k = g) w w') : LedAt w' p m A T L := h.chg hc fun k hk e => (s.led k hk).2.2 e
theorem LedSep.ref_a {B : Nat} (s : LedSep B p m q g A ao n) (h : RefAt w q g ao n cap T L) (hc : Chg (AdrS A) w w') : RefAt w' q g ao n cap T L := by
  refine h.chg hc ?_ ?_ ?_
  · rintro ⟨j, hj, e⟩; exact (s.led _ (.inr (.inr ⟨j, hj, e⟩))).2.1 rfl
  · rintro ⟨j, hj, e⟩; exact (s.led _ (.inr (.inr ⟨j, hj, e⟩))).2.2 rfl
  · rintro a ea ⟨j, hj, e⟩
    have h1 := s.ha a ea
    have h2 := (s.led _ (.inr (.inr ⟨j, hj, e⟩))).1
    omega
theorem LedSep.non_g {w0 : World} (s : LedSep w0.heap.size p m q g A ao n) (h : Chg Non w0 w) (hc : Chg (fun k => k = g) w w') : Chg Non w0 w' := h.next hc fun i hi e => by have := s.hg; omega
theorem LedSep.non_a {w0 : World} (s : LedSep w0.heap.size p m q g A ao n) (h : Chg Non w0 w) (hc : Chg (AdrS A) w w') : Chg Non w0 w' := h.next hc fun i hi ⟨j, hj, e⟩ => by have := (s.led i (.inr (.inr ⟨j, hj, e⟩))).1; omega
theorem row_set {w : World} {g : Nat} {cur : Array Value} {e : TypeId} (h : w.heap[g]? = some (.cells cur e (0, 0))) (k : Nat) (v : Value) : (w.setCell ⟨g, k, none⟩ v).heap[g]? = some (.cells (cur.setIfInBounds k v) e (0, 0)) := by
  show (w.heap.modify g _)[g]? = _
  rw [Array.getElem?_modify, if_pos rfl, h]
  rfl
def lfV (n : Nat) (L : Nat → Int) (t : Int) : Int := if 0 ≤ t ∧ t < n then L t.toNat else 0
def lfE (n : Nat) (t : Int) : Int := if 0 ≤ t ∧ t < n then 0 else 1
theorem left_det (h : LedAt w p m A T L) (hA : A.length = n) (t : Int) : Calls Try.prog 10 #[.pointer (some ⟨p, 0, none⟩), .int .i64 t] w fun e w' => e = .returned (.tuple #[.int .i64 (lfV n L t), .int .i64 (lfE n t)]) ∧ w = w' := by
  subst hA
  refine Calls.mono (Left_yes h t) ?_
  rintro e w' ⟨rfl, ⟨hi, rfl⟩ | ⟨hi, rfl⟩⟩
  · have hi' : 0 ≤ t ∧ t < ((A.length : Nat) : Int) := hi
    exact ⟨by rw [lfV, lfE, if_pos hi', if_pos hi'], rfl⟩
  · have hi' : ¬ (0 ≤ t ∧ t < ((A.length : Nat) : Int)) := hi
    exact ⟨by rw [lfV, lfE, if_neg hi', if_neg hi'], rfl⟩
theorem refLeft_det (h : RefAt w q g ao n cap T L) (t : Int) : Calls Try.prog 20 #[.pointer (some ⟨q, 0, none⟩), .int .i64 t] w fun e w' => e = .returned (.tuple #[.int .i64 (lfV n L t), .int .i64 (lfE n t)]) ∧ w = w' := by
  refine Calls.mono (refLeft_any h t) ?_
  rintro e w' ⟨rfl, ⟨hi, rfl⟩ | ⟨hi, rfl⟩⟩
  · have hi' : 0 ≤ t ∧ t < ((n : Nat) : Int) := hi
    exact ⟨by rw [lfV, lfE, if_pos hi', if_pos hi'], rfl⟩
  · have hi' : ¬ (0 ≤ t ∧ t < ((n : Nat) : Int)) := hi
    exact ⟨by rw [lfV, lfE, if_neg hi', if_neg hi'], rfl⟩
/-- Found: a tenant, its place, no error; or none. -/
def FoundAs (T : List Ten) (n : Nat) (s : ByteArray) (x : Ten) (i e : Int) : Prop :=
  (∃ j : Nat, j < n ∧ (nth T j).name = s ∧ x = nth T j ∧ i = (j : Int) ∧ e = 0) ∨ ((∀ j, j < n → (nth T j).name ≠ s) ∧ x = tz ∧ i = 0 ∧ e = 6)
theorem FoundAs.uniq (hM : May T) (hT : T.length = n) {s : ByteArray} {x y : Ten} {i j e f : Int} (h : FoundAs T n s x i e) (k : FoundAs T n s y j f) : y = x ∧ j = i ∧ f = e := by
  rcases h with ⟨a, ha, h1, rfl, rfl, rfl⟩ | ⟨ha, rfl, rfl, rfl⟩
  · rcases k with ⟨b, hb, h2, rfl, rfl, rfl⟩ | ⟨hb, rfl, rfl, rfl⟩
    · obtain rfl := hM.inj (i := a) (j := b) (by omega) (by omega) (h1.trans h2.symm)
      exact ⟨rfl, rfl, rfl⟩
    · exact absurd h1 (hb a ha)
  · rcases k with ⟨b, hb, h2, rfl, rfl, rfl⟩ | ⟨hb, rfl, rfl, rfl⟩
    · exact absurd h2 (ha b hb)
    · exact ⟨rfl, rfl, rfl⟩
theorem find_det (h : LedAt w p m A T L) (hA : A.length = n) (s : ByteArray) : Calls Try.prog 9 #[.pointer (some ⟨p, 0, none⟩), .string s] w fun e w' => ∃ x i f, e = .returned (.tuple #[x.val, .int .i64 i, .int .i64 f]) ∧ FoundAs T n s x i f ∧ Chg Non w w' := by
  subst hA
  refine Calls.mono (Find_yes h s) ?_
  rintro e w' ⟨hc, ⟨j, hj, hn, rfl⟩ | ⟨hno, rfl⟩⟩
  · exact ⟨_, _, _, rfl, .inl ⟨j, hj, hn, rfl, rfl, rfl⟩, hc⟩
  · exact ⟨_, _, _, rfl, .inr ⟨hno, rfl, rfl, rfl⟩, hc⟩
theorem refFind_det (h : RefAt w q g ao n cap T L) (s : ByteArray) : Calls Try.prog 21 #[.pointer (some ⟨q, 0, none⟩), .string s] w fun e w' => ∃ x i f, e = .returned (.tuple #[x.val, .int .i64 i, .int .i64 f]) ∧ FoundAs T n s x i f ∧ Chg Non w w' := by
  refine Calls.mono (refFind_any h s) ?_
  rintro e w' ⟨hc, ⟨j, hj, hn, rfl⟩ | ⟨hno, rfl⟩⟩
  · exact ⟨_, _, _, rfl, .inl ⟨j, hj, hn, rfl, rfl, rfl⟩, hc⟩
  · exact ⟨_, _, _, rfl, .inr ⟨hno, rfl, rfl, rfl⟩, hc⟩
end Go.Proofs.Ytdiabilcamomcaa
