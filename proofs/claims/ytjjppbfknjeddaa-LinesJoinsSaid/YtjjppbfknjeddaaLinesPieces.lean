/- LinesPieces, walked. -/
import Derived.Test.YtjjppbfknjeddaaLinAlive
namespace Go.Proofs.Ytjjppbfknjeddaa
open Go.RowKit Go.Shelf
set_option linter.unusedVariables false
set_option linter.unusedSimpArgs false
attribute [local go_sem ↓] Go.wp_at_zero Go.wp_at_succ
theorem wpList_guardedOp {P : Program} {ops : Array Oper} {rest : List Oper} {o : Oper} {a : Act} {Q : Exit → Act → World → Prop} {w : World} (hw : Region.wanted o (yielded ops a.tmps) = true)
    (h : ∀ K : Act → World → Prop, (∀ a w, wpList P ops Q rest a w → K a w) → o.wp P a w K Q) : wpList P ops Q (o :: rest) a w :=
  wpList_step fun K hK => by rw [if_pos hw]; exact h K hK
theorem wpList_append_OwnG {P : Program} {ops : Array Oper} {rest : List Oper} {o : Oper} {a : Act} {Q : Exit → Act → World → Prop} {w : World} (hw : Region.wanted o (yielded ops a.tmps) = true) (s y : Operand) (t tx : TypeId)
    (ho : o.op = .call { callee := .builtin .append, args := #[s, y], argTypes := #[t, tx] })
    (B : Nat) (e : TypeId) (sz by_ : Nat) (i : TypeInfo) (z : Value) (ht : P.underlying t = some (.slice e)) (hi : P.info? e = some i) (hz : i.zero = some z) (hsz : i.size = sz) (hzs : z.cells.size = sz) (hby : i.bytes = by_)
    (ao : Option Addr) (n cap : Nat) (xs : List Value) (hv : a.eval s = .slice ao n cap) (hown : Own w B e sz ao n cap xs)
    (x : Value) (m : Nat) (news : List Value) (hx : a.eval y = x) (hs : Src P sz tx x m news w) (h63 : n + m ≤ maxLen) (hb : (n + m) * by_ ≤ 140737488355328) (hB : B ≤ w.heap.size)
    (h : ∀ ao' cap' w', Own w' B e sz ao' (n + m) cap' (xs ++ news) → Chg (fun k => some k = blk ao ∧ n + m ≤ cap ∧ 0 < m) w w' → (blk ao' = blk ao ∨ blk ao' = some w.heap.size) → (n + m ≤ cap → cap' = cap ∧ ao' = ao) →
      wpList P ops Q rest (a.put o.dst (.slice ao' (n + m) cap')) w') : wpList P ops Q (o :: rest) a w :=
  wpList_guardedOp hw fun _ hK => wp_append_Own s y t tx ho B e sz by_ i z ht hi hz hsz hzs hby ao n cap xs hv hown x m news hx hs h63 hb hB fun ao' cap' w' h1 h2 h3 h4 => hK _ _ (h ao' cap' w' h1 h2 h3 h4)
theorem RdV.src {P : Program} {w : World} {b : Nat} {ao : Option Addr} {n cap : Nat} {vs : List Value} {tx e' : TypeId} (h : RdV w b ao n cap vs) (hk : P.underlying tx = some (.slice e')) (h1 : ∀ u ∈ vs, u.oneCell' = true) : Src P 1 tx (.slice ao n cap) n vs w := by
  obtain ⟨h1', h2, h3, h4, h5⟩ := h
  cases ao with
  | none =>
    obtain rfl := h4 rfl
    obtain rfl : n = 0 := by omega
    have : vs = [] := List.eq_nil_of_length_eq_zero h1'
    subst this
    exact Src.ofNil w hk 0
  | some a =>
    refine Src.ofSlice w hk a n cap _ (by simpa using h1') (fun j u hu => ?_) h1
    have hj : j < vs.length := (List.getElem?_eq_some_iff.1 hu).1
    obtain ⟨off, ha, hc⟩ := h5 (by omega)
    cases ha
    rw [Addr.add_lit, hc j (by omega)]
    exact hu
theorem RdV.chg {S : Nat → Prop} {w w' : World} {b : Nat} {ao : Option Addr} {n cap : Nat} {vs : List Value} (h : RdV w b ao n cap vs) (hc : Chg S w w') (hn : 0 < n → b < w.heap.size ∧ ¬ S b) : RdV w' b ao n cap vs :=
  h.same fun hp => hc.block b (hn hp).1 (hn hp).2
theorem txts_one (L : List (List UInt8 × Bool)) : ∀ u ∈ txts L, u.oneCell' = true := by
  intro u hu
  obtain ⟨q, _, rfl⟩ := List.mem_map.1 hu
  rfl
theorem bols_one (L : List (List UInt8 × Bool)) : ∀ u ∈ bols L, u.oneCell' = true := by
  intro u hu
  obtain ⟨q, _, rfl⟩ := List.mem_map.1 hu
  rfl
theorem txts_append (a b : List (List UInt8 × Bool)) : txts (a ++ b) = txts a ++ txts b := by simp [txts]
theorem bols_append (a b : List (List UInt8 × Bool)) : bols (a ++ b) = bols a ++ bols b := by simp [bols]
section
variable {w wr w1 : World} {B p b2 : Nat} {ao : Option Addr} {post : List UInt8} {a1 : Option Addr} {c1 : Nat} {la : Option Addr} {lc m : Nat} {xs : List Value} {oa : Option Addr} {oc m' : Nat} {ys : List Value} {ao' : Option Addr} {cap' : Nat} {s' : List UInt8}
theorem PutM.kept2 {ao1 : Option Addr} {cap1 : Nat} {s1 : List UInt8} (h : PutM w wr B p b2 ao post a1 c1 la lc m xs oa oc m' ys ao' cap' s') (hl : LinAt w1 B p ao1 cap1 s1) (hc : Chg (fun k => k = p ∨ some k = blk ao') wr w1) (hb : ∀ k, some k = blk ao1 → some k = blk ao' ∨ wr.heap.size ≤ k) :
    PutM w w1 B p b2 ao post a1 c1 la lc m xs oa oc m' ys ao1 cap1 s1 := by
  have hz := h.chg.size
  have hd : ∀ (q : Option Addr), (∀ i, some i = blk q → some i ≠ blk ao') → (∀ i, some i = blk q → i < wr.heap.size) → ∀ i, some i = blk q → some i ≠ blk ao1 := fun q h1 h2 i hi e => by
    rcases hb i e with hb | hb
    · exact h1 i hi hb
    · have := h2 i hi; omega
  refine ⟨h.rd.same fun hp => hc.block _ (by have := (h.lb hp).1; omega) ?_, h.ot.chg hc ?_, h.ob.chg hc ?_, hl, h.chg.next hc ?_, ?_, hd _ h.d1 (fun i hi => (h.ot.lt i hi).2), hd _ h.d2 (fun i hi => (h.ob.lt i hi).2), h.d3, h.lp, h.lb⟩
  · rintro (e | e)
    · exact (h.lb hp).2.1 e
    · exact h.blk2 hp e
  · rintro k hk (e | e)
    · have := (h.ot.lt k hk).1; have := h.lp; omega
    · exact h.d1 k hk e
  · rintro k hk (e | e)
    · have := (h.ob.lt k hk).1; have := h.lp; omega
    · exact h.d2 k hk e
  · rintro i hi (e | e)
    · exact .inl e
    · rcases h.old i e with e' | e'
      · exact .inr e'
      · omega
  · intro k hk
    rcases hb k hk with hb | hb
    · exact h.old k hb
    · right; omega
end
/-- Numbers of 16 bits, read. -/
def N16 (w : World) (ao : Option Addr) (n cap : Nat) (f : Nat → Nat) : Prop := n ≤ cap ∧ cap ≤ maxLen ∧ (∀ i, i < n → f i < 65536) ∧
  (0 < cap → ∃ b off, ao = some ⟨b, off, none⟩ ∧ b < w.heap.size ∧ ∀ i, i < n → w.cell? ⟨b, off + i, none⟩ = some (.int .u16 (f i : Int)))
theorem N16.chg {w w' : World} {ao : Option Addr} {n cap : Nat} {f : Nat → Nat} (h : N16 w ao n cap f) (hc : Chg Non w w') : N16 w' ao n cap f := by
  obtain ⟨h1, h2, h3, h4⟩ := h
  refine ⟨h1, h2, h3, fun hp => ?_⟩
  obtain ⟨b, off, rfl, hb, hcell⟩ := h4 hp
  exact ⟨b, off, rfl, Nat.lt_of_lt_of_le hb hc.size, fun i hi => (hc.cell (p := ⟨b, off + i, none⟩) hb (fun h => h)).trans (hcell i hi)⟩
set_option maxRecDepth 40000 in
set_option maxHeartbeats 8000000 in
theorem LinesPieces_any {w : World} {b : Nat} {ao : Option Addr} {n cap : Nat} {bs : List UInt8} (h : Rd w b ao n cap bs) {at_ : Option Addr} {an acap : Nat} {f : Nat → Nat} (ha : N16 w at_ an acap f) :
    Calls Try.prog 3 #[.slice ao n cap, .slice at_ an acap] w fun e w' => e = .returned (.bool true) ∧ Below w.heap.size w w' := by
  have HL := Lib.hid h; have HA := Lib.hid ha
  clear h ha
  by_cases hg : 200000 < n ∨ 100 < an
  · skip
    rcases (show 200000 < n ∨ (n ≤ 200000 ∧ 100 < an) by omega) with hn | ⟨hn, hn2⟩
    · have hn' : 200000 < (n : Int) := by omega
      go_enter Try.func3, Try.ntmps3
      go_wp2_with fail
      refine Calls.mono (alive12_any _) ?_
      rintro e w1 ⟨rfl, hc1⟩
      have C1 := Lib.hid hc1; clear hc1
      go_wp2_with fail
      refine Calls.mono (alive12_any _) ?_
      rintro e w2 ⟨rfl, hc2⟩
      have C2 := Lib.hid (C1.out.trans hc2); clear hc2
      go_wp2_with fail
      go_ret
      exact ⟨rfl, C2.out.belowN⟩
    · have hn' : ¬ 200000 < (n : Int) := by omega
      have hn2' : 100 < (an : Int) := by omega
      go_enter Try.func3, Try.ntmps3
      go_wp2_with fail
      refine Calls.mono (alive12_any _) ?_
      rintro e w1 ⟨rfl, hc1⟩
      have C1 := Lib.hid hc1; clear hc1
      go_wp2_with fail
      refine Calls.mono (alive12_any _) ?_
      rintro e w2 ⟨rfl, hc2⟩
      have C2 := Lib.hid (C1.out.trans hc2); clear hc2
      go_wp2_with fail
      go_ret
      exact ⟨rfl, C2.out.belowN⟩
  · have hn' : ¬ 200000 < (n : Int) := by omega
    have hn2' : ¬ 100 < (an : Int) := by omega
    obtain ⟨i1, hi1, hi2, hi3, hi4⟩ := info_parts Try.info_str
    have Hs1 := Lib.hid hi1; have Hs2 := Lib.hid hi2; have Hs3 := Lib.hid hi3; have Hs4 := Lib.hid hi4
    clear hi1 hi2 hi3 hi4
    obtain ⟨i2, hi1, hi2, hi3, hi4⟩ := info_parts Try.info_bool
    have Hb1 := Lib.hid hi1; have Hb2 := Lib.hid hi2; have Hb3 := Lib.hid hi3; have Hb4 := Lib.hid hi4
    clear hi1 hi2 hi3 hi4
    go_enter Try.func3, Try.ntmps3
    go_wp2_with fail
    refine Calls.mono (alive12_any _) ?_
    rintro e w1 ⟨rfl, hc1⟩
    have C1 := Lib.hid hc1; clear hc1
    go_wp2_with fail
    refine Calls.mono (New_any _) ?_
    rintro e w2 ⟨rfl, hr2, hc2⟩
    obtain ⟨r1, hrr⟩ : ∃ r, r = w1.heap.size + 1 := ⟨_, rfl⟩
    obtain ⟨p1, hpp⟩ : ∃ p, p = w1.heap.size := ⟨_, rfl⟩
    have hz2 := hr2.lt
    rw [← hrr] at hz2
    have PB := Lib.hid (show w.heap.size ≤ p1 ∧ r1 = p1 + 1 ∧ r1 < w2.heap.size by have := C1.out.size; omega)
    rw [← hrr, ← hpp] at hr2
    rw [← hrr]
    have R2 := Lib.hid hr2; have C2 := Lib.hid (C1.out.trans hc2)
    clear hr2 hc2 hrr hpp hz2
    go_wp2_with fail
    refine Calls.mono (New_any _) ?_
    rintro e w3 ⟨rfl, hr3, hc3⟩
    obtain ⟨r2, hrr⟩ : ∃ r, r = w2.heap.size + 1 := ⟨_, rfl⟩
    obtain ⟨p2, hpp⟩ : ∃ p, p = w2.heap.size := ⟨_, rfl⟩
    have hz3 := hr3.lt
    rw [← hrr] at hz3
    have PB2 := Lib.hid (show r1 < p2 ∧ p1 < p2 ∧ r2 = p2 + 1 ∧ r2 < w3.heap.size ∧ w.heap.size ≤ p2 by have := PB.out; omega)
    rw [← hrr, ← hpp] at hr3
    rw [← hrr]
    have R3 := Lib.hid hr3; have C3 := Lib.hid (C2.out.trans hc3); have O3 := Lib.hid (R2.out.keep hc3)
    have HL3 := Lib.hid (HL.out.chg C3.out (fun h => h))
    have Hb := Lib.hid (fun hp : 0 < n => HL.out.lt hp)
    clear hr3 hc3 hrr hpp hz3 R2
    obtain ⟨L, hLL⟩ : ∃ L, putB [] bs = L := ⟨_, rfl⟩
    obtain ⟨sE, hss⟩ : ∃ s', restB [] bs = s' := ⟨_, rfl⟩
    have LE := Lib.hid hLL; have SE := Lib.hid hss
    clear hLL hss
    go_wp2_with fail
    refine Calls.mono (Put_rdr O3.out HL3.out (fun hp => ⟨by have := Hb.out hp; have := PB.out; omega, by simp [blk]⟩) (by omega) LE.out SE.out) ?_
    rintro e w4 ⟨la, lc, oa, oc, m, ao4, cap4, rfl, h4⟩
    have H4 := Lib.hid h4
    have C4 := Lib.hid (PutEnd.non O3.out h4.chg C3.out (by have := PB.out; omega))
    have R4 := Lib.hid (R3.out.chg h4.chg (by have := PB2.out; simp [blk]; omega) (by have := PB2.out; simp [blk]; omega) (fun k hk => by simp [blk] at hk))
    have A4 := Lib.hid (HA.out.chg C4.out)
    have HL4 := Lib.hid (HL.out.chg C4.out (fun h => h))
    clear h4
    have rc : ∀ (wr : World), Chg (fun k => k = p2 ∨ some k = blk (none : Option Addr)) w4 wr → wr.heap[r2]? = some (.cells #[.pointer (some ⟨p2, 0, none⟩)] 51 (0, 0)) := fun wr hc =>
      (hc.block r2 R4.out.lt (fun e => e.elim (by have := PB2.out; omega) (by simp [blk]))).trans R4.out.hr
    have RC := Lib.hid rc
    clear rc
    go_wp2_with fail
    go_loopw [10, 11, 12, 13] (fun v4 v5 v1 i wr => ∃ (k : Nat) (pre post : List UInt8) (a2 : Option Addr) (c2 : Nat) (la : Option Addr) (lc : Nat) (oa : Option Addr) (oc m : Nat) (ao' : Option Addr) (cap' n2 : Nat), k ≤ an ∧ i = .int .i64 (k : Int) ∧ bs = pre ++ post ∧ v1 = .slice a2 n2 c2 ∧ post.length = n2 ∧ v4 = .slice la m lc ∧ v5 = .slice oa m oc ∧ m = (putB [] pre).length ∧ PutM w4 wr p2 p2 b none post a2 c2 la lc m (txts (putB [] pre)) oa oc m (bols (putB [] pre)) ao' cap' (restB [] pre)) (fun _ _ _ i _ => an - (intOf i).toNat)
    case atStart =>
      refine ⟨0, [], bs, ao, cap, none, 0, none, 0, 0, none, 0, n, by omega, rfl, rfl, rfl, HL.out.1, rfl, rfl, rfl, ⟨by rw [HL.out.1]; exact HL4.out, Own.nil _ _ _ _, Own.nil _ _ _ _, R4.out.st, Chg.refl _ _, fun k hk => by simp [blk] at hk, fun i hi => by simp [blk] at hi, fun i hi => by simp [blk] at hi, fun i hi => by simp [blk] at hi, R4.out.st.lt, fun hp => ⟨?_, ?_, by simp [blk]⟩⟩⟩
      · have := Hb.out (by rw [← HL.out.1]; exact hp); have := C4.out.size; omega
      · have := Hb.out (by rw [← HL.out.1]; exact hp); have := PB2.out; omega
    case round =>
      obtain ⟨k, pre, post, a2, c2, ya, yc, da, dc, m2, ao', cap', n2, hk, rfl, hbs, rfl, hn2, rfl, rfl, hm, hM⟩ := hrel
      have HM := Lib.hid hM; have HBS := Lib.hid hbs; have Hm := Lib.hid hm; have N2 := Lib.hid hn2
      have hrd := hM.rd
      rw [hn2] at hrd
      have RD := Lib.hid hrd
      have hml : m2 ≤ pre.length := by rw [hm, putB_len]; exact List.count_le_length
      have hsum : pre.length + n2 = n := by rw [← HL.out.1, hbs, List.length_append, hn2]
      have CW : Hid (Chg Non w wr) := Lib.hid (C4.out.next hM.chg (fun i hi e => e.elim (by have := PB2.out; omega) (by simp [blk])))
      have r2n : r2 ≠ p2 ∧ some r2 ≠ blk ao' := ⟨by have := PB2.out; omega, fun e => by
        rcases hM.old r2 e with e' | e'
        · simp [blk] at e'
        · have h1 := PB2.out; have h2 := H4.out.chg.size; omega⟩
      have R2N := Lib.hid r2n
      clear hM hbs hm hn2 hrd r2n
      by_cases hka : k < an
      · obtain ⟨ob, off, rfl, _, hcell⟩ := (HA.out.chg CW.out).2.2.2 (by have := HA.out.1; omega)
        have d1 := hcell k hka
        have hz := HA.out.2.2.1 k hka
        clear hcell
        generalize f k = z at d1 hz
        have hwz : IntKind.i64.wrap (z : Int) = (z : Int) := IntWalk.i64_in _ ⟨by omega, by omega⟩
        have k0 : (0 : Int) ≤ (k : Int) := by omega
        have k1 : (k : Int) < (an : Int) := by omega
        obtain ⟨K, hK⟩ : ∃ K, K = min z n2 := ⟨_, rfl⟩
        have hKn : K ≤ n2 := by omega
        obtain ⟨sl1, rd1⟩ := RD.out.upto (P := Try.prog) (t := 22) Try.underlying22 (by kernel_rfl) .i64 (m := K) hKn
        obtain ⟨a6, sl6, rd6⟩ := RD.out.from_ (P := Try.prog) (t := 22) Try.underlying22 (by kernel_rfl) .i64 (k := K) hKn
        have RD1 := Lib.hid rd1
        have hl1 : (post.take K).length = K := rd1.1
        have hl6 : (post.drop K).length = n2 - K := rd6.1
        have hcut : post.take K ++ post.drop K = post := List.take_append_drop K post
        generalize post.take K = l1 at RD1 hl1 hcut
        generalize post.drop K = q at rd6 hl6 hcut
        generalize cap = cap0 at *
        generalize c2 - K = c6 at sl6 rd6
        generalize hn6 : n2 - K = n6 at sl6 rd6 hl6
        have RD6 := Lib.hid rd6; have L1 := Lib.hid hl1; have L6 := Lib.hid hl6; have HCUT := Lib.hid hcut
        have hsum6 : K + n6 = n2 := by omega
        clear rd1 rd6 hl1 hl6 hcut hn6
        have hmin : min (z : Int) (n2 : Int) = (K : Int) := by omega
        clear hK
        go_wp2_with (first
          | (go_at_call 11; refine Calls.mono (Put_any (RC.out wr HM.out.chg) HM.out.st RD1.out (fun hp => ⟨RD1.out.lt hp, (HM.out.lb (by have := N2.out; omega)).2.1, HM.out.blk2 (by have := N2.out; omega)⟩) R2N.out (by omega)) ?_; rintro e w5 ⟨l5, lc5, o5, oc5, ao5, cap5, rfl, I⟩; have HI := Lib.hid I; have M5 := Lib.hid (PutM.kept2 HM.out I.st I.chg I.old); obtain ⟨x5, hx5⟩ : ∃ x5, putB (restB [] pre) l1 = x5 := ⟨_, rfl⟩; have X5 := Lib.hid hx5; have m5b : (putB (restB [] pre) l1).length ≤ l1.length := (by rw [putB_len]; exact List.count_le_length); rw [hx5] at m5b HI ⊢; obtain ⟨m5, hm5⟩ : ∃ m5, x5.length = m5 := ⟨_, rfl⟩; rw [hm5] at m5b HI ⊢; have M5L := Lib.hid hm5; have m5c : m5 ≤ K := (by rw [L1.out] at m5b; exact m5b); obtain ⟨g5, _, v5⟩ := RdV.of_Own HI.out.ot; have V5 := Lib.hid v5; clear I hx5 hm5 m5b v5)
          | (at_builtin; refine wpList_append_Own rfl _ _ 27 27 rfl w4.heap.size 9 1 16 i1 (.string ⟨#[]⟩) Try.underlying27 Hs1.out Hs2.out Hs3.out rfl Hs4.out ya m2 yc _ rfl M5.out.ot _ m5 _ rfl (V5.out.src Try.underlying27 (txts_one _)) (by unfold maxLen; omega) (by omega) (by have := M5.out.chg.size; omega) ?_; intro y6 yc6 w6 hown6 hchg6 hb6 _; have M6 := Lib.hid (PutM.text M5.out hown6 hchg6 (fun k h => h.1) hb6); have O6 := Lib.hid (HI.out.ob.chg hchg6 (fun k hk e => by have := (HI.out.ob.lt k hk).1; have := (HM.out.ot.lt k e.1).2; omega)); obtain ⟨g6, _, v6⟩ := RdV.of_Own O6.out; have V6 := Lib.hid v6; clear hown6 hchg6 hb6 v6)
          | (at_builtin; refine wpList_append_Own rfl _ _ 28 28 rfl w4.heap.size 4 1 1 i2 (.bool false) Try.underlying28 Hb1.out Hb2.out Hb3.out rfl Hb4.out da m2 dc _ rfl M6.out.ob _ m5 _ rfl (V6.out.src Try.underlying28 (bols_one _)) (by unfold maxLen; omega) (by omega) (by have := M6.out.chg.size; omega) ?_; intro d7 dc7 w7 hown7 hchg7 hb7 _; have M7 := Lib.hid (PutM.bools M6.out hown7 hchg7 (fun k h => h.1) hb7); clear hown7 hchg7 hb7))
        go_roundw
        case rel =>
          have hap := putB_append pre [] l1
          rw [X5.out] at hap
          refine ⟨k + 1, pre ++ l1, q, a6, c6, y6, yc6, d7, dc7, m2 + m5, ao5, cap5, n6, by omega, by go_num, by rw [HBS.out, ← HCUT.out]; simp, rfl, L6.out, rfl, rfl, by rw [hap.1, List.length_append, ← Hm.out, M5L.out], ?_⟩
          rw [hap.1, hap.2, txts_append, bols_append]
          have h6 := RD6.out
          rw [← L6.out] at h6
          exact PutM.onward HM.out M7.out h6 (by have := L6.out; have := N2.out; omega)
        case measure => simp [intOf]; omega
      · have k1 : ¬ (k : Int) < (an : Int) := by omega
        obtain ⟨x5, hx5⟩ : ∃ x5, putB (restB [] pre) post = x5 := ⟨_, rfl⟩
        obtain ⟨m5, hm5⟩ : ∃ m5, x5.length = m5 := ⟨_, rfl⟩
        have m5c : m5 ≤ n2 := by rw [← hm5, ← hx5, putB_len, ← N2.out]; exact List.count_le_length
        have hap := putB_append pre [] post
        rw [hx5, ← HBS.out, LE.out, SE.out] at hap
        have hmm : m2 + m5 = m := by rw [← H4.out.ml, hap.1, List.length_append, ← Hm.out, hm5]
        have AP1 := Lib.hid hap.1; have AP2 := Lib.hid hap.2; have X5 := Lib.hid hx5; have M5L := Lib.hid hm5; have HMM := Lib.hid hmm
        clear hap hx5 hm5 hmm
        go_wp2_with (first
          | (go_at_call 11; refine Calls.mono (Put_any (RC.out wr HM.out.chg) HM.out.st RD.out (fun hp => ⟨RD.out.lt hp, (HM.out.lb (by have := N2.out; omega)).2.1, HM.out.blk2 (by have := N2.out; omega)⟩) R2N.out (by omega)) ?_; rw [X5.out, M5L.out, ← AP2.out]; rintro e w5 ⟨l5, lc5, o5, oc5, ao5, cap5, rfl, I⟩; have HI := Lib.hid I; have M5 := Lib.hid (PutM.kept2 HM.out I.st I.chg I.old); obtain ⟨g5, _, v5⟩ := RdV.of_Own HI.out.ot; have V5 := Lib.hid v5; clear I v5)
          | (at_builtin; refine wpList_append_OwnG (by rfl) _ _ 27 27 rfl w4.heap.size 9 1 16 i1 (.string ⟨#[]⟩) Try.underlying27 Hs1.out Hs2.out Hs3.out rfl Hs4.out ya m2 yc _ rfl M5.out.ot _ m5 _ rfl (V5.out.src Try.underlying27 (txts_one _)) (by unfold maxLen; omega) (by omega) (by have := M5.out.chg.size; omega) ?_; intro y6 yc6 w6 hown6 hchg6 hb6 _; have M6 := Lib.hid (PutM.text M5.out hown6 hchg6 (fun k h => h.1) hb6); have O6 := Lib.hid (HI.out.ob.chg hchg6 (fun k hk e => by have := (HI.out.ob.lt k hk).1; have := (HM.out.ot.lt k e.1).2; omega)); rw [← txts_append, ← AP1.out, txts_tv] at hown6; obtain ⟨g6, _, v6⟩ := RdV.of_Own hown6; have V6 := Lib.hid v6; have q6 := H4.out.ot.chg M6.out.chg (fun k hk e => e.elim (fun e => by have := (H4.out.ot.lt k hk).1; have := PB2.out; omega) (by simp [blk])); rw [txts_tv] at q6; obtain ⟨g6', _, v6'⟩ := RdV.of_Own q6; have V6' := Lib.hid v6'; clear hown6 hchg6 hb6 v6 v6' q6)
          | (go_at_call 12; refine Calls.mono (SameTexts_of (b := true) V6.out V6'.out (by simp)) ?_; rintro e w7 ⟨rfl, hc7⟩; have M7 := Lib.hid (M6.out.quiet hc7); obtain ⟨g7, _, v7⟩ := RdV.of_Own (O6.out.chg hc7 (fun _ _ h => h)); have V7 := Lib.hid v7; clear hc7 v7)
          | (at_builtin; refine wpList_append_OwnG (by rfl) _ _ 28 28 rfl w4.heap.size 4 1 1 i2 (.bool false) Try.underlying28 Hb1.out Hb2.out Hb3.out rfl Hb4.out da m2 dc _ rfl M7.out.ob _ m5 _ rfl (V7.out.src Try.underlying28 (bols_one _)) (by unfold maxLen; omega) (by omega) (by have := M7.out.chg.size; omega) ?_; intro d8 dc8 w8 hown8 hchg8 hb8 _; have M8 := Lib.hid (PutM.bools M7.out hown8 hchg8 (fun k h => h.1) hb8); rw [← bols_append, ← AP1.out, bols_b] at hown8; obtain ⟨g8, _, v8⟩ := RdV.of_Own hown8; have V8 := Lib.hid v8; have q8 := H4.out.ob.chg M8.out.chg (fun k hk e => e.elim (fun e => by have := (H4.out.ob.lt k hk).1; have := PB2.out; omega) (by simp [blk])); rw [bols_b] at q8; obtain ⟨g8', _, v8'⟩ := RdV.of_Own q8; have V8' := Lib.hid v8'; clear hown8 hchg8 hb8 v8 v8' q8)
          | (go_at_call 13; refine Calls.mono (SameBools_of (b := true) V8.out V8'.out (by simp)) ?_; rintro e w9 ⟨rfl, hc9⟩; have M9 := Lib.hid (M8.out.quiet hc9); have one9 := Lib.hid (H4.out.rdr.chg M9.out.chg (fun e => e.elim (by have := PB2.out; omega) (by simp [blk])) (fun e => e.elim (by have := PB2.out; omega) (by simp [blk])) (fun k hk e => e.elim (fun e => by rcases H4.out.old k hk with e' | e'; simp [blk] at e'; have := PB2.out; omega) (by simp [blk]))); have two9 : Hid (RdrAt w9 p2 r2 p2 ao5 cap5 sE) := Lib.hid ⟨RC.out w9 M9.out.chg, M9.out.st, ⟨by have := PB2.out; omega, fun e => by rcases M9.out.old r2 e with e' | e'; simp [blk] at e'; have h1 := PB2.out; have h2 := H4.out.chg.size; omega⟩, by have := PB2.out; omega⟩; clear hc9)
          | (go_at_call 14; with_reducible refine Calls.mono (Left_of (r := r1) one9.out (z := (sE.length : Int)) rfl) ?_; rintro e w' ⟨rfl, rfl⟩)
          | (go_at_call 14; with_reducible refine Calls.mono (Left_of (r := r2) two9.out (z := (sE.length : Int)) rfl) ?_; rintro e w' ⟨rfl, rfl⟩))
        go_ret
        exact ⟨by simp, (C4.out.next M9.out.chg (fun i hi e => e.elim (by have := PB2.out; omega) (by simp [blk]))).belowN⟩
end Go.Proofs.Ytjjppbfknjeddaa
