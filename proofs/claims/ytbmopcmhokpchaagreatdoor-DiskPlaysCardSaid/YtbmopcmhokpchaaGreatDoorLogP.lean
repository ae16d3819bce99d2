/- Frames of records, plainly: what a frame is, and how frames are read again. -/
import Derived.Test.YtbmopcmhokpchaaGreatDoorShaP
namespace Go.Proofs.YtbmopcmhokpchaaGreatDoor
set_option linter.unusedVariables false
set_option linter.unusedSimpArgs false
/-- A length as four bytes. -/
def len4 (n : Nat) : List UInt8 := [UInt8.ofNat (n / 16777216), UInt8.ofNat (n / 65536), UInt8.ofNat (n / 256), UInt8.ofNat n]
def frameB (r : List UInt8) : List UInt8 := (len4 r.length ++ r) ++ (sha (len4 r.length ++ r)).take 8
def num4 (l : List UInt8) : Nat := (l.getD 0 0).toNat * 16777216 + (l.getD 1 0).toNat * 65536 + (l.getD 2 0).toNat * 256 + (l.getD 3 0).toNat
/-- The record of the frame at the head, if one stands there whole. -/
def fr1 (l : List UInt8) : Option (List UInt8) :=
  if 12 ≤ l.length ∧ num4 l ≤ 16777216 ∧ num4 l + 12 ≤ l.length ∧ (sha (l.take (4 + num4 l))).take 8 = (l.drop (4 + num4 l)).take 8 then some ((l.drop 4).take (num4 l)) else none
def flat (rs : List (List UInt8)) : List UInt8 := rs.flatMap frameB
theorem len4_length (n : Nat) : (len4 n).length = 4 := rfl
theorem frameB_length (r : List UInt8) : (frameB r).length = r.length + 12 := by
  simp [frameB, len4_length, sha_length]; omega
theorem num4_len4 {n : Nat} (hn : n ≤ 16777216) (l : List UInt8) : num4 (len4 n ++ l) = n := by
  simp only [num4, len4, List.getD, List.cons_append, List.nil_append, List.getElem?_cons_zero, List.getElem?_cons_succ, Option.getD_some, UInt8.toNat_ofNat']
  omega
theorem num4_short {l : List UInt8} {n k : Nat} (hn : n ≤ 16777216) (hk : 4 ≤ k) : num4 ((len4 n ++ l).take k) = n := by
  have e : (len4 n ++ l).take k = len4 n ++ l.take (k - 4) := by
    rw [List.take_append, len4_length, List.take_of_length_le (by rw [len4_length]; exact hk)]
  rw [e, num4_len4 hn]
theorem fr1_frame {r : List UInt8} (hr : r.length ≤ 16777216) (rest : List UInt8) : fr1 (frameB r ++ rest) = some r := by
  have hl := frameB_length r
  have hN : num4 (frameB r ++ rest) = r.length := by
    unfold frameB
    rw [List.append_assoc, List.append_assoc, num4_len4 hr]
  have ht : (frameB r ++ rest).take (4 + r.length) = len4 r.length ++ r := by
    unfold frameB
    rw [List.append_assoc]
    exact List.take_left' (by simp [len4_length])
  have hd : (frameB r ++ rest).drop (4 + r.length) = (sha (len4 r.length ++ r)).take 8 ++ rest := by
    unfold frameB
    rw [List.append_assoc]
    exact List.drop_left' (by simp [len4_length])
  have h8 : ((sha (len4 r.length ++ r)).take 8 ++ rest).take 8 = (sha (len4 r.length ++ r)).take 8 := List.take_left' (by simp [sha_length])
  have hr4 : ((frameB r ++ rest).drop 4).take r.length = r := by
    unfold frameB
    rw [List.append_assoc, List.append_assoc, List.drop_left' (len4_length _)]
    exact List.take_left' rfl
  unfold fr1
  rw [hN, ht, hd, h8, hr4, if_pos]
  refine ⟨?_, hr, ?_, rfl⟩
  · rw [List.length_append]; omega
  · rw [List.length_append]; omega
theorem fr1_short {r : List UInt8} (hr : r.length ≤ 16777216) {k : Nat} (hk : k < r.length + 12) : fr1 ((frameB r).take k) = none := by
  have hl : ((frameB r).take k).length = k := by rw [List.length_take, frameB_length]; omega
  unfold fr1
  rw [if_neg]
  rintro ⟨h1, h2, h3, _⟩
  rw [hl] at h1 h3
  unfold frameB at h3
  rw [List.append_assoc, num4_short hr (by omega)] at h3
  omega
theorem len4_back (a b c d : UInt8) : len4 (a.toNat * 16777216 + b.toNat * 65536 + c.toNat * 256 + d.toNat) = [a, b, c, d] := by
  have ha := a.toNat_lt; have hb := b.toNat_lt; have hc := c.toNat_lt; have hd := d.toNat_lt
  unfold len4
  congr 1
  · exact UInt8.toNat_inj.1 (by rw [UInt8.toNat_ofNat']; omega)
  · congr 1
    · exact UInt8.toNat_inj.1 (by rw [UInt8.toNat_ofNat']; omega)
    · congr 1
      · exact UInt8.toNat_inj.1 (by rw [UInt8.toNat_ofNat']; omega)
      · congr 1
        exact UInt8.toNat_inj.1 (by rw [UInt8.toNat_ofNat']; omega)
theorem take_num4 {l : List UInt8} (h : 4 ≤ l.length) : l.take 4 = len4 (num4 l) := by
  cases l with
  | nil => simp at h
  | cons a l => cases l with
    | nil => simp at h
    | cons b l => cases l with
      | nil => simp at h
      | cons c l => cases l with
        | nil => simp at h
        | cons d l => exact (len4_back a b c d).symm
theorem fr1_some {l r : List UInt8} (h : fr1 l = some r) : r.length ≤ 16777216 ∧ ∃ rest, l = frameB r ++ rest := by
  unfold fr1 at h
  split at h
  · rename_i hc
    obtain ⟨h1, h2, h3, h4⟩ := hc
    simp only [Option.some.injEq] at h
    have hrl : r.length = num4 l := by rw [← h]; simp; omega
    have e4 : l.take 4 = len4 (num4 l) := take_num4 (by omega)
    have eh : l.take (4 + num4 l) = len4 r.length ++ r := by
      rw [List.take_add, e4, hrl, h]
    refine ⟨by omega, (l.drop (4 + num4 l)).drop 8, ?_⟩
    unfold frameB
    rw [← eh, h4, List.append_assoc, List.take_append_drop, List.take_append_drop]
  · cases h
/-- Whatever bytes there are: whole frames, one behind the other, and a rest at whose head none stands. -/
structure Framed (bs : List UInt8) (rs : List (List UInt8)) (rest : List UInt8) : Prop where
  eq : bs = flat rs ++ rest
  none : fr1 rest = none
  le : ∀ r ∈ rs, r.length ≤ 16777216
theorem framed_all : ∀ (n : Nat) (bs : List UInt8), bs.length ≤ n → ∃ rs rest, Framed bs rs rest := by
  intro n
  induction n with
  | zero =>
    intro bs h
    refine ⟨[], bs, ⟨rfl, ?_, by simp⟩⟩
    unfold fr1
    rw [if_neg]
    omega
  | succ n ih =>
    intro bs h
    cases hf : fr1 bs with
    | none => exact ⟨[], bs, ⟨rfl, hf, by simp⟩⟩
    | some r =>
      obtain ⟨hr, t, rfl⟩ := fr1_some hf
      have hl := frameB_length r
      obtain ⟨rs, rest, h1⟩ := ih t (by rw [List.length_append] at h; omega)
      refine ⟨r :: rs, rest, ⟨?_, h1.none, ?_⟩⟩
      · rw [h1.eq]; simp [flat]
      · intro x hx
        rcases List.mem_cons.1 hx with e | e
        · rw [e]; exact hr
        · exact h1.le x e
theorem fr1_nil : fr1 [] = none := by unfold fr1; rw [if_neg]; simp
theorem framed_flat {rs : List (List UInt8)} (h : ∀ r ∈ rs, r.length ≤ 16777216) : Framed (flat rs) rs [] := ⟨by simp, fr1_nil, h⟩
theorem framed_cut {rs : List (List UInt8)} (h : ∀ r ∈ rs, r.length ≤ 16777216) {r : List UInt8} (hr : r.length ≤ 16777216) {k : Nat} (hk : k < r.length + 12) : Framed (flat rs ++ (frameB r).take k) rs ((frameB r).take k) := ⟨rfl, fr1_short hr hk, h⟩
theorem flat_snoc (rs : List (List UInt8)) (r : List UInt8) : flat (rs ++ [r]) = flat rs ++ frameB r := by simp [flat]
theorem flat_append (a b : List (List UInt8)) : flat (a ++ b) = flat a ++ flat b := by simp [flat]
theorem flat_len : ∀ rs : List (List UInt8), rs.length ≤ (flat rs).length
  | [] => Nat.le_refl _
  | r :: rs => by
    have := flat_len rs
    have h := frameB_length r
    simp only [flat, List.flatMap_cons, List.length_append, List.length_cons] at this ⊢
    omega
/-- Where the i-th frame stands. -/
def startB (rs : List (List UInt8)) (i : Nat) : Nat := (flat (rs.take i)).length
theorem startB_zero (rs : List (List UInt8)) : startB rs 0 = 0 := by simp [startB, flat]
theorem startB_succ {rs : List (List UInt8)} {i : Nat} {r : List UInt8} (h : rs[i]? = some r) : startB rs (i + 1) = startB rs i + (r.length + 12) := by
  have hi := (List.getElem?_eq_some_iff.1 h)
  obtain ⟨hi, e⟩ := hi
  unfold startB
  rw [List.take_succ_eq_append_getElem hi, flat_snoc, List.length_append, frameB_length, e]
theorem startB_all (rs : List (List UInt8)) : startB rs rs.length = (flat rs).length := by simp [startB]
/-- What stands behind i frames. -/
theorem framed_drop {bs : List UInt8} {rs : List (List UInt8)} {rest : List UInt8} (h : Framed bs rs rest) {i : Nat} (hi : i ≤ rs.length) : bs.drop (startB rs i) = flat (rs.drop i) ++ rest := by
  rw [h.eq]
  have e : flat rs = flat (rs.take i) ++ flat (rs.drop i) := by rw [← flat_append, List.take_append_drop]
  rw [e, List.append_assoc]
  exact List.drop_left' rfl
theorem framed_at {bs : List UInt8} {rs : List (List UInt8)} {rest : List UInt8} (h : Framed bs rs rest) {i : Nat} {r : List UInt8} (hi : rs[i]? = some r) : ∃ t, bs.drop (startB rs i) = frameB r ++ t := by
  obtain ⟨hlt, e⟩ := List.getElem?_eq_some_iff.1 hi
  rw [framed_drop h (by omega), List.drop_eq_getElem_cons hlt, e]
  exact ⟨_, by simp only [flat, List.flatMap_cons, List.append_assoc]; rfl⟩
theorem framed_fr1 {bs : List UInt8} {rs : List (List UInt8)} {rest : List UInt8} (h : Framed bs rs rest) {i : Nat} (hi : i ≤ rs.length) : fr1 (bs.drop (startB rs i)) = rs[i]? := by
  by_cases e : i < rs.length
  · obtain ⟨t, ht⟩ := framed_at h (List.getElem?_eq_getElem e)
    rw [ht, fr1_frame (h.le _ (List.getElem_mem e)), List.getElem?_eq_getElem e]
  · obtain rfl : i = rs.length := by omega
    rw [framed_drop h (Nat.le_refl _), List.drop_length, List.getElem?_eq_none (Nat.le_refl _)]
    exact h.none
theorem startB_le {bs : List UInt8} {rs : List (List UInt8)} {rest : List UInt8} (h : Framed bs rs rest) {i : Nat} (hi : i ≤ rs.length) : startB rs i ≤ bs.length := by
  have e : flat rs = flat (rs.take i) ++ flat (rs.drop i) := by rw [← flat_append, List.take_append_drop]
  have := congrArg List.length (h.eq)
  rw [e] at this
  simp only [List.length_append] at this
  unfold startB
  omega
theorem framed_end {bs : List UInt8} {rs : List (List UInt8)} {rest : List UInt8} (h : Framed bs rs rest) : bs.drop (startB rs rs.length) = rest := by
  rw [framed_drop h (Nat.le_refl _)]; simp [flat]
end Go.Proofs.YtbmopcmhokpchaaGreatDoor
