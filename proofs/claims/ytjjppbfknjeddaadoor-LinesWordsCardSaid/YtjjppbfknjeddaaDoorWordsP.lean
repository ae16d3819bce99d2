/- Words, plainly: by bytes; and that the pass over the runes gives the same. -/
import Derived.Test.YtjjppbfknjeddaaDoorLib
import Derived.Lib.FieldsP
import Derived.Lib.SpaceUEq
namespace Go.Proofs.YtjjppbfknjeddaaDoor
open Go.RowKit
set_option linter.unusedVariables false
def blankB (c : UInt8) : Bool := decide (c.toNat = 32) || decide (c.toNat = 9)
def blankR (x : Nat) : Bool := decide (x = 32) || decide (x = 9)
def wordsGo : List UInt8 → List UInt8 → List (List UInt8)
  | cur, [] => if cur = [] then [] else [cur]
  | cur, c :: r => if blankB c = true then (if cur = [] then wordsGo [] r else cur :: wordsGo [] r) else wordsGo (cur ++ [c]) r
def words (l : List UInt8) : List (List UInt8) := wordsGo [] l
theorem words_skip : ∀ (a : List UInt8) (cur r : List UInt8), (∀ c ∈ a, blankB c = false) → wordsGo cur (a ++ r) = wordsGo (cur ++ a) r
  | [], cur, r, _ => by simp
  | c :: a, cur, r, h => by
    have hc := h c (by simp)
    rw [List.cons_append, wordsGo, if_neg (by simp [hc]), words_skip a _ r (fun x hx => h x (by simp [hx]))]
    simp
theorem getD_get! (l : List UInt8) (i : Nat) (hi : i < l.length) : (⟨l.toArray⟩ : ByteArray).get! i = l.getD i 0 := by
  simp [ByteArray.get!, List.getD, hi]
theorem sizeL (l : List UInt8) : (⟨l.toArray⟩ : ByteArray).size = l.length := by show l.toArray.size = _; simp
/-- Where a rune is a blank it is one byte, and a blank; where it is none, none of its bytes is one. -/
theorem rune_bytes (l : List UInt8) {pos : Nat} (h : pos < l.length) :
    1 ≤ (Utf8.decode ⟨l.toArray⟩ pos).2 ∧ pos + (Utf8.decode ⟨l.toArray⟩ pos).2 ≤ l.length ∧
    (blankR (Utf8.decode ⟨l.toArray⟩ pos).1 = true → (Utf8.decode ⟨l.toArray⟩ pos).2 = 1 ∧ blankB (l.getD pos 0) = true) ∧
    (blankR (Utf8.decode ⟨l.toArray⟩ pos).1 = false → ∀ c ∈ (l.drop pos).take (Utf8.decode ⟨l.toArray⟩ pos).2, blankB c = false) := by
  have hd := Lib.decode_at ⟨l.toArray⟩ pos
  rw [sizeL] at hd
  have g0 := getD_get! l pos h
  have hn : 1 ≤ l.length - pos := by omega
  have hle := Lib.decodeN_le_n' (l.length - pos) ((⟨l.toArray⟩ : ByteArray).get! pos).toNat ((⟨l.toArray⟩ : ByteArray).get! (pos + 1)).toNat ((⟨l.toArray⟩ : ByteArray).get! (pos + 2)).toNat ((⟨l.toArray⟩ : ByteArray).get! (pos + 3)).toNat hn
  have hcs := Lib.decodeN_cases (l.length - pos) ((⟨l.toArray⟩ : ByteArray).get! pos).toNat ((⟨l.toArray⟩ : ByteArray).get! (pos + 1)).toNat ((⟨l.toArray⟩ : ByteArray).get! (pos + 2)).toNat ((⟨l.toArray⟩ : ByteArray).get! (pos + 3)).toNat
  have hct := Lib.decodeN_conts (l.length - pos) ((⟨l.toArray⟩ : ByteArray).get! pos).toNat ((⟨l.toArray⟩ : ByteArray).get! (pos + 1)).toNat ((⟨l.toArray⟩ : ByteArray).get! (pos + 2)).toNat ((⟨l.toArray⟩ : ByteArray).get! (pos + 3)).toNat
  rw [← hd] at hle hcs hct
  have hw := Lib.width_pos ⟨l.toArray⟩ pos
  refine ⟨hw, by omega, fun hb => ?_, fun hb c hc => ?_⟩
  · have hb' : (Utf8.decode ⟨l.toArray⟩ pos).1 = 32 ∨ (Utf8.decode ⟨l.toArray⟩ pos).1 = 9 := by simpa [blankR] using hb
    rcases hcs with ⟨h1, h2⟩ | ⟨_, _, _, h1, h2⟩ | ⟨_, _, _, _, h1, h2⟩ | ⟨h1, h2⟩ | h2
    · rw [h2] at hb' ⊢
      refine ⟨rfl, ?_⟩
      rw [← g0]
      simpa [blankB] using hb'
    · rw [h2] at hb'; simp only at hb'; omega
    · rw [h2] at hb'; simp only at hb'; omega
    · omega
    · rw [h2] at hb'; simp only at hb'; omega
  · obtain ⟨j, hj, rfl⟩ := List.mem_iff_getElem.1 hc
    have hjl : j < (Utf8.decode ⟨l.toArray⟩ pos).2 := by
      rw [List.length_take] at hj; omega
    have hjn : pos + j < l.length := by omega
    have e : ((l.drop pos).take (Utf8.decode ⟨l.toArray⟩ pos).2)[j] = l.getD (pos + j) 0 := by
      simp [List.getD, hjn]
    rw [e]
    have hb' : ¬ ((Utf8.decode ⟨l.toArray⟩ pos).1 = 32 ∨ (Utf8.decode ⟨l.toArray⟩ pos).1 = 9) := by
      intro h'
      have : blankR (Utf8.decode ⟨l.toArray⟩ pos).1 = true := by simpa [blankR] using h'
      rw [this] at hb; cases hb
    obtain ⟨k1, k2, k3, k4⟩ := hct
    have hbig : ∀ x : UInt8, x.toNat / 64 = 2 → blankB x = false := fun x hx => by
      unfold blankB
      have h1 : ¬ x.toNat = 32 := by omega
      have h2 : ¬ x.toNat = 9 := by omega
      simp [h1, h2]
    match j, hjl, hjn with
    | 0, hjl, hjn =>
      rw [Nat.add_zero, ← g0]
      by_cases h128 : ((⟨l.toArray⟩ : ByteArray).get! pos).toNat < 128
      · have h2 : Utf8.decode ⟨l.toArray⟩ pos = (((⟨l.toArray⟩ : ByteArray).get! pos).toNat, 1) := by rw [hd]; unfold Lib.decodeN; rw [if_pos h128]
        rw [h2] at hb'
        simp only [not_or] at hb'
        simp [blankB, hb'.1, hb'.2]
      · have h1 : ¬ ((⟨l.toArray⟩ : ByteArray).get! pos).toNat = 32 := by omega
        have h2 : ¬ ((⟨l.toArray⟩ : ByteArray).get! pos).toNat = 9 := by omega
        simp [blankB, h1, h2]
    | 1, hjl, hjn => rw [← getD_get! l _ hjn]; exact hbig _ (k1 (by omega)).1
    | 2, hjl, hjn => rw [← getD_get! l _ hjn]; exact hbig _ (k2 (by omega)).1
    | 3, hjl, hjn => rw [← getD_get! l _ hjn]; exact hbig _ (k3 (by omega)).1
    | j + 4, hjl, hjn => omega
theorem words_spans (l : List UInt8) : ∀ (f pos : Nat) (st : Option Nat) (acc : List (Nat × Nat)), l.length ≤ pos + f → pos ≤ l.length → (∀ a, st = some a → a < pos) →
    (Lib.closeSpans ⟨l.toArray⟩ (Lib.spansFromP blankR ⟨l.toArray⟩ f pos st acc)).map (fun p => Lib.pieceU l p.1 p.2) = acc.map (fun p => Lib.pieceU l p.1 p.2) ++ wordsGo (Lib.openPiece l st pos) (l.drop pos)
  | 0, pos, st, acc, h, hp, hst => by
    obtain rfl : pos = l.length := by omega
    have hd : l.drop l.length = [] := List.drop_eq_nil_of_le (Nat.le_refl _)
    rw [hd]
    cases st with
    | none => simp [Lib.spansFromP, Lib.closeSpans, Lib.openPiece, wordsGo]
    | some a =>
      have := Lib.pieceU_ne l a l.length (hst a rfl) (Nat.le_refl _)
      simp [Lib.spansFromP, Lib.closeSpans, Lib.openPiece, wordsGo, this, sizeL]
  | f + 1, pos, st, acc, h, hp, hst => by
    by_cases hlt : pos < l.length
    · obtain ⟨h1, h2, h3, h4⟩ := rune_bytes l hlt
      have hcut : l.drop pos = (l.drop pos).take (Utf8.decode ⟨l.toArray⟩ pos).2 ++ l.drop (pos + (Utf8.decode ⟨l.toArray⟩ pos).2) := by
        rw [← List.drop_drop, List.take_append_drop]
      have hlt' : pos < (⟨l.toArray⟩ : ByteArray).size := by rw [sizeL]; exact hlt
      simp only [Lib.spansFromP, if_pos hlt']
      cases hsp : blankR (Utf8.decode ⟨l.toArray⟩ pos).1 with
      | true =>
        obtain ⟨k1, k2⟩ := h3 hsp
        have hcons : l.drop pos = l.getD pos 0 :: l.drop (pos + 1) := by
          rw [List.drop_eq_getElem_cons hlt]; simp [List.getD, hlt]
        generalize l.getD pos 0 = c at k2 hcons
        rw [k1] at h2
        simp only [if_true, k1]
        cases st with
        | none =>
          rw [words_spans l f (pos + 1) none acc (by omega) h2 (fun a h => by cases h), hcons]
          simp [Lib.openPiece, wordsGo, k2]
        | some a =>
          have hpn := Lib.pieceU_ne l a pos (hst a rfl) (by omega)
          rw [words_spans l f (pos + 1) none (acc ++ [(a, pos)]) (by omega) h2 (fun a h => by cases h), hcons]
          simp [Lib.openPiece, wordsGo, k2, hpn]
      | false =>
        have k := h4 hsp
        simp only [Bool.false_eq_true, if_false]
        cases st with
        | none =>
          rw [words_spans l f (pos + (Utf8.decode ⟨l.toArray⟩ pos).2) (some pos) acc (by omega) h2 (fun a h => by cases h; omega)]
          conv => rhs; rw [hcut]
          rw [words_skip _ _ _ k]
          congr 2
          simp only [Lib.openPiece, List.nil_append, Lib.pieceU, Nat.add_sub_cancel_left]
        | some a =>
          have := hst a rfl
          rw [words_spans l f (pos + (Utf8.decode ⟨l.toArray⟩ pos).2) (some a) acc (by omega) h2 (fun b h => by cases h; omega)]
          conv => rhs; rw [hcut]
          rw [words_skip _ _ _ k]
          congr 2
          simp only [Lib.openPiece]
          rw [Lib.pieceU_grow l a pos _ (by omega)]
    · have hge : ¬ pos < (⟨l.toArray⟩ : ByteArray).size := by rw [sizeL]; exact hlt
      obtain rfl : pos = l.length := by omega
      rw [Lib.spansFromP_end _ _ _ _ _ _ hge]
      have hd : l.drop l.length = [] := List.drop_eq_nil_of_le (Nat.le_refl _)
      rw [hd]
      cases st with
      | none => simp [Lib.closeSpans, Lib.openPiece, wordsGo]
      | some a =>
        have := Lib.pieceU_ne l a l.length (hst a rfl) (Nat.le_refl _)
        simp [Lib.closeSpans, Lib.openPiece, wordsGo, this, sizeL]
theorem words_eq (l : List UInt8) : Lib.goFieldsP blankR ⟨l.toArray⟩ = (words l).map (fun x => (⟨x.toArray⟩ : ByteArray)) := by
  have h := words_spans l l.length 0 none [] (by omega) (by omega) (fun a h => by cases h)
  have e : (words l) = (Lib.spansOfP blankR ⟨l.toArray⟩).map (fun p => Lib.pieceU l p.1 p.2) := by
    unfold Lib.spansOfP
    rw [sizeL, h]
    simp [Lib.openPiece, words]
  rw [e, List.map_map]
  unfold Lib.goFieldsP
  apply List.map_congr_left
  intro p _
  apply ByteArray.ext
  rw [ByteArray.data_extract]
  apply Array.ext'
  simp [Lib.pieceU]
end Go.Proofs.YtjjppbfknjeddaaDoor
