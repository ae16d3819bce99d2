/- LogOpens, walked. -/
import Derived.Test.YtbmopcmhokpchaaGreatDoorBookUse
import Derived.Test.YtbmopcmhokpchaaGreatDoorRefRead
import Derived.Test.YtbmopcmhokpchaaGreatDoorLogLives
namespace Go.Proofs.YtbmopcmhokpchaaGreatDoor
open Go.RowKit
set_option linter.unusedVariables false
set_option linter.unusedSimpArgs false
attribute [local go_sem ↓] Go.wp_at_zero Go.wp_at_succ
structure OpL (w wr : World) (k : Nat) (rs : List (List UInt8)) (oa : Option Addr) (c1 : Nat) (vs : List Value) (ob : Option Addr) (c2 : Nat) (us : List Value) (i : Nat) : Prop where
  bk : ∃ L : List Held, L.length = i ∧ BookB w wr k L ∧ ∀ g ∈ L, ∃ j v, j < i ∧ vs[j]? = some v ∧ blkZ g.a g.c = blkV v
  o1 : OwnZ wr w.heap.size 22 oa rs.length c1 vs
  r1 : Recs wr w.heap.size vs rs
  o2 : OwnZ wr w.heap.size 22 ob rs.length c2 us
  r2 : Recs wr w.heap.size us rs
theorem Recs.notB {w : World} {B : Nat} {vs : List Value} {rs : List (List UInt8)} (h : Recs w B vs rs) : ∀ v ∈ vs, ∀ k, some k = blkV v → ¬ BS w k := by
  intro v hv k hk
  obtain ⟨i, hi, rfl⟩ := List.getElem_of_mem hv
  have hl := h.len
  obtain ⟨a, c, h1, h2⟩ := h.at_ i rs[i] (by simp)
  rw [List.getElem?_eq_getElem hi] at h1
  simp only [Option.some.injEq] at h1
  rw [h1] at hk
  exact BS.not_ownZ h2 (by decide) (by decide) k hk
theorem OpL.keep {w wr : World} {k : Nat} {rs : List (List UInt8)} {oa : Option Addr} {c1 : Nat} {vs : List Value} {ob : Option Addr} {c2 : Nat} {us : List Value} {i : Nat} (h : OpL w wr k rs oa c1 vs ob c2 us i) (q : Nat) : OpL w (wr.drewN q) k rs oa c1 vs ob c2 us i := by
  obtain ⟨L, h1, h2, h3⟩ := h.bk
  have hc : Chg Non wr (wr.drewN q) := (Chg.refl _ _).drewN q
  exact ⟨⟨L, h1, h2.non hc (fun _ _ h => h) (fun _ _ _ _ h => h) (fun _ h => h.elim), h3⟩, h.o1.chg hc (fun _ _ h => h), h.r1.chg hc (fun _ _ _ _ h => h), h.o2.chg hc (fun _ _ h => h), h.r2.chg hc (fun _ _ _ _ h => h)⟩
theorem OpL.step {w wr : World} {k : Nat} {rs : List (List UInt8)} {oa : Option Addr} {c1 : Nat} {vs : List Value} {ob : Option Addr} {c2 : Nat} {us : List Value} {i : Nat} (h : OpL w wr k rs oa c1 vs ob c2 us i) (hl : i ≤ 100000) {r : List UInt8} (hr : rs[i]? = some r) (hm : r.length ≤ 1000000) {a : Option Addr} {m c : Nat} (hv : vs[i]? = some (.slice a m c)) :
    Calls Tryz.prog 12 #[.pointer (some ⟨k, 0, none⟩), .slice a m c] wr fun e w' => (∃ v, e = .returned v) ∧ OpL w w' k rs oa c1 vs ob c2 us (i + 1) := by
  obtain ⟨L, h1, h2, h3⟩ := h.bk
  obtain ⟨a', c', h4, h5⟩ := h.r1.at_ i r hr
  rw [hv] at h4
  cases h4
  have hsep : ∀ q, some q = blkZ a c → ∀ g ∈ L, ¬ some q = blkZ g.a g.c := by
    intro q hq g hg e
    obtain ⟨j, v, hj, hvj, hb⟩ := h3 g hg
    rw [hb] at e
    obtain ⟨hlj, ej⟩ := List.getElem?_eq_some_iff.1 hvj
    obtain ⟨hli, ei⟩ := List.getElem?_eq_some_iff.1 hv
    have := (List.pairwise_iff_getElem.1 h.r1.apart) j i hlj hli hj q (by rw [ej]; exact e)
    rw [ei] at this
    exact this hq
  refine Calls.mono (Bytes_book h2 (by omega) h5 (by omega) hsep) ?_
  rintro e w' ⟨hv', hb, hc⟩
  refine ⟨hv', ⟨⟨_, by simp [h1], hb, fun g hg => ?_⟩, h.o1.chg hc (BS.not_ownZ h.o1 (by decide) (by decide)), h.r1.chg hc h.r1.notB, h.o2.chg hc (BS.not_ownZ h.o2 (by decide) (by decide)), h.r2.chg hc h.r2.notB⟩⟩
  rcases List.mem_append.1 hg with hg | hg
  · obtain ⟨j, v, hj, hvj, hb⟩ := h3 g hg
    exact ⟨j, v, by omega, hvj, hb⟩
  · rw [List.mem_singleton.1 hg]
    exact ⟨i, _, by omega, hv, rfl⟩
set_option maxRecDepth 40000 in
set_option maxHeartbeats 4000000 in
theorem LogOpens_any {w : World} {b : Nat} {ao : Option Addr} {n cap : Nat} {bs : List UInt8} (h : Rd w b ao n cap bs) :
    Calls Tryz.prog 4 #[.slice ao n cap] w fun e w' => e = .returned (.bool true) ∧ Below w.heap.size w w' := by
  have le := h.2.1
  have hm := h.2.2.1
  unfold maxLen at hm
  have HR := Lib.hid h
  have hbl := h.1
  obtain ⟨rs, rest, hF⟩ := framed_all bs.length bs (Nat.le_refl _)
  have FR := Lib.hid hF
  obtain ⟨T, hT⟩ : ∃ T, (flat rs).length = T := ⟨_, rfl⟩
  have hTn : T + rest.length = n := by rw [← hbl, hF.eq, ← hT, List.length_append]
  have hrs : rs.length ≤ T := by rw [← hT]; exact flat_len rs
  have hbt : bs.take T = flat rs := by rw [hF.eq, ← hT]; simp
  have HT := Lib.hid hT; have HBT := Lib.hid hbt; have NB := Lib.hid hbl
  clear h hF hT hbt hbl
  by_cases hbig : 20000 < n
  · have h1 : (20000 : Int) < (n : Int) := by omega
    go_enter Tryz.func4, Tryz.ntmps4
    go_wp2_with fail
    refine Calls.mono (lives20_any _) ?_
    rintro e w1 ⟨rfl, hc1⟩
    go_wp2_with fail
    go_ret
    exact ⟨rfl, hc1.belowN⟩
  · have h1 : ¬ (20000 : Int) < (n : Int) := by omega
    go_enter Tryz.func4, Tryz.ntmps4
    go_wp2_with fail
    refine Calls.mono (New_of (size := 20000) (by rfl) (by omega)) ?_
    rintro e w0 ⟨rfl, hd0, hc0⟩
    have D0 := Lib.hid hd0; have C0 := Lib.hid hc0
    have PL := Lib.hid hd0.lt
    clear hd0 hc0
    obtain ⟨p, hp⟩ : ∃ p, p = w.heap.size := ⟨_, rfl⟩
    rw [← hp] at D0 PL ⊢
    have HP := Lib.hid hp
    clear hp
    go_wp2_with fail
    refine Calls.mono (Append_to D0.out (HR.out.chg C0.out (fun h => h))) ?_
    rintro e w1 ⟨f, a1, c1, rfl, ⟨_, rfl, hd1⟩ | ⟨hbad, _, _⟩⟩
    rotate_left
    · exact absurd hbad (by simp; omega)
    rw [List.nil_append] at hd1
    have D1 := Lib.hid hd1
    have C1 : Hid (Chg Non w w1) := Lib.hid (C0.out.next hd1.chg (fun i hi e => by have := HP.out; rcases e with e | e <;> first | omega | (simp [blk] at e)))
    have HA1 : Hid (∀ i, some i = blk a1 → w.heap.size ≤ i) := Lib.hid (fun i hi => by rcases hd1.new i hi with e | e <;> first | (simp [blk] at e; done) | (have := C0.out.size; omega))
    clear hd1
    go_wp2_with fail
    refine Calls.mono (Open_any D1.out.at_ FR.out (by have := NB.out; omega)) ?_
    rintro e w2 ⟨oa, vs, a2, k2, s2, rfl, ho2, hr2, -, hd2, hs0, hs1⟩
    have D2 := Lib.hid hd2
    have C2 : Hid (Chg Non w w2) := Lib.hid (C1.out.next hd2.chg (fun i hi e => by
      have := HP.out
      rcases e with e | e
      · omega
      · have := HA1.out i e; omega))
    have O2 := Lib.hid (ho2.mono C1.out.size); have R2 := Lib.hid (hr2.mono C1.out.size)
    have S0 := Lib.hid hs0; have S1 := Lib.hid hs1
    clear hd2 ho2 hr2 hs0 hs1
    go_wp2_with fail
    refine Calls.mono (refRead_any (HR.out.chg C2.out (fun h => h)) FR.out (by omega)) ?_
    rintro e w3 hE
    obtain ⟨ob, k3, us, rfl, hI⟩ := hE
    rw [HT.out]
    have O3 := Lib.hid (O2.out.chg hI.chg (fun _ _ h => h)); have R3 := Lib.hid (R2.out.chg hI.chg (fun _ _ _ _ h => h))
    have O4 : Hid (OwnZ w3 w.heap.size 22 ob rs.length k3 us) := Lib.hid (.inl (hI.own.mono C2.out.size)); have R4 := Lib.hid (hI.recs.mono C2.out.size)
    have C3 := Lib.hid (C2.out.trans hI.chg)
    have D3 := Lib.hid (D2.out.at_.chg hI.chg (fun h => h) (fun _ _ h => h))
    clear hI
    have RT : Hid (∀ w', Chg Non w w' → Rd w' b ao T cap (flat rs)) := Lib.hid (fun w' h => by rw [← HBT.out]; exact (HR.out.chg h (fun h => h)).take (by omega))
    have L3 := Lib.hid (show (flat rs).length = T from HT.out)
    have t0 : (0 : Int) ≤ (T : Int) := by omega
    have t1 : (T : Int) ≤ (cap : Int) := by omega
    by_cases hre : rest = []
    · obtain rfl : T = n := by rw [hre] at hTn; simpa using hTn
      have hs : s2 = 0 := S0.out hre
      rw [hs] at D3
      have q1 : decide ((T : Int) < (T : Int)) = false := by simp
      have q2 : ((T : Int) == (T : Int)) = true := by simp
      clear hre hs
      go_wp2_with fail
      refine wp_region_any (by kernel_rfl) ?_
      change wpAny _ _ _ _ _ _ _ (World.drew _)
      refine wpAny_take (i := 0) (v := ?_) (by simp only [List.getElem?_toArray, List.getElem?_cons_succ, List.getElem?_cons_zero]; rfl) (by kernel_rfl) (by kernel_rfl) (by kernel_rfl) (by intro _ _ _ h; exact h) (Or.inl ⟨by rfl, ?_⟩) ?_
      rotate_left
      · intro w; go_simp; try with_reducible rfl
      try simp only [Act.put, List.setIfInBounds_toArray, List.set_cons_zero, List.set_cons_succ]
      refine wpAny_take (i := 1) (v := ?_) (by simp only [List.getElem?_toArray, List.getElem?_cons_succ, List.getElem?_cons_zero]; rfl) (by kernel_rfl) (by kernel_rfl) (by kernel_rfl) (by intro _ _ _ h; exact h) (Or.inl ⟨by rfl, ?_⟩) ?_
      rotate_left
      · intro w; go_simp; try with_reducible rfl
      try simp only [Act.put, List.setIfInBounds_toArray, List.set_cons_zero, List.set_cons_succ]
      refine wpAny_take (i := 2) (v := ?_) (by simp only [List.getElem?_toArray, List.getElem?_cons_succ, List.getElem?_cons_zero]; rfl) (by kernel_rfl) (by kernel_rfl) (by kernel_rfl) (by intro _ _ _ h; exact h) (Or.inl ⟨by rfl, ?_⟩) ?_
      rotate_left
      · intro w; go_simp; try with_reducible rfl
      try simp only [Act.put, List.setIfInBounds_toArray, List.set_cons_zero, List.set_cons_succ]
      refine wpAny_take (i := 3) (v := ?_) (by simp only [List.getElem?_toArray, List.getElem?_cons_succ, List.getElem?_cons_zero]; rfl) (by kernel_rfl) (by kernel_rfl) (by kernel_rfl) (by intro _ _ _ h; exact h) (Or.inl ⟨by rfl, ?_⟩) ?_
      rotate_left
      · intro w; go_simp; try with_reducible rfl
      try simp only [Act.put, List.setIfInBounds_toArray, List.set_cons_zero, List.set_cons_succ]
      refine wpAny_take (i := 4) (v := ?_) (by simp only [List.getElem?_toArray, List.getElem?_cons_succ, List.getElem?_cons_zero]; rfl) (by kernel_rfl) (by kernel_rfl) (by kernel_rfl) (by intro _ _ _ h; exact h) (Or.inl ⟨by rfl, ?_⟩) ?_
      rotate_left
      · intro w; go_simp; try with_reducible rfl
      try simp only [Act.put, List.setIfInBounds_toArray, List.set_cons_zero, List.set_cons_succ]
      refine wpAny_take (i := 5) (v := ?_) (by simp only [List.getElem?_toArray, List.getElem?_cons_succ, List.getElem?_cons_zero]; rfl) (by kernel_rfl) (by kernel_rfl) (by kernel_rfl) (by intro _ _ _ h; exact h) (Or.inl ⟨by rfl, ?_⟩) ?_
      rotate_left
      · intro w; go_simp; try with_reducible rfl
      try simp only [Act.put, List.setIfInBounds_toArray, List.set_cons_zero, List.set_cons_succ]
      refine wpAny_take (i := 6) (v := ?_) (by simp only [List.getElem?_toArray, List.getElem?_cons_succ, List.getElem?_cons_zero]; rfl) (by kernel_rfl) (by kernel_rfl) (by kernel_rfl) (by intro _ _ _ h; exact h) (Or.inl ⟨by rfl, ?_⟩) ?_
      rotate_left
      · intro w; go_simp; try with_reducible rfl
      try simp only [Act.put, List.setIfInBounds_toArray, List.set_cons_zero, List.set_cons_succ]
      refine wpAny_take (i := 7) (v := ?_) (by simp only [List.getElem?_toArray, List.getElem?_cons_succ, List.getElem?_cons_zero]; rfl) (by kernel_rfl) (by kernel_rfl) (by kernel_rfl) (by intro _ _ _ h; exact h) (Or.inl ⟨by rfl, ?_⟩) ?_
      rotate_left
      · intro w; go_simp; try with_reducible rfl
      try simp only [Act.put, List.setIfInBounds_toArray, List.set_cons_zero, List.set_cons_succ]
      refine wpAny_take (i := 8) (v := ?_) (by simp only [List.getElem?_toArray, List.getElem?_cons_succ, List.getElem?_cons_zero]; rfl) (by kernel_rfl) (by kernel_rfl) (by kernel_rfl) (by intro _ _ _ h; exact h) (Or.inl ⟨by rfl, ?_⟩) ?_
      rotate_left
      · intro w; go_simp; try with_reducible rfl
      try simp only [Act.put, List.setIfInBounds_toArray, List.set_cons_zero, List.set_cons_succ]
      refine wpAny_take (i := 9) (v := ?_) (by simp only [List.getElem?_toArray, List.getElem?_cons_succ, List.getElem?_cons_zero]; rfl) (by kernel_rfl) (by kernel_rfl) (by kernel_rfl) (by intro _ _ _ h; exact h) (Or.inl ⟨by rfl, ?_⟩) ?_
      rotate_left
      · intro w; go_simp; try with_reducible rfl
      try simp only [Act.put, List.setIfInBounds_toArray, List.set_cons_zero, List.set_cons_succ]
      refine wpAny_take (i := 10) (v := ?_) (by simp only [List.getElem?_toArray, List.getElem?_cons_succ, List.getElem?_cons_zero]; rfl) (by kernel_rfl) (by kernel_rfl) (by kernel_rfl) (by intro _ _ _ h; exact h) (Or.inl ⟨by rfl, ?_⟩) ?_
      rotate_left
      · intro w; go_simp; try with_reducible rfl
      try simp only [Act.put, List.setIfInBounds_toArray, List.set_cons_zero, List.set_cons_succ]
      refine wpAny_take (i := 12) (v := ?_) (by simp only [List.getElem?_toArray, List.getElem?_cons_succ, List.getElem?_cons_zero]; rfl) (by kernel_rfl) (by kernel_rfl) (by kernel_rfl) (by intro _ _ _ h; exact h) (Or.inl ⟨by rfl, ?_⟩) ?_
      rotate_left
      · intro w; go_simp; try with_reducible rfl
      try simp only [Act.put, List.setIfInBounds_toArray, List.set_cons_zero, List.set_cons_succ]
      refine wpAny_take (i := 13) (v := ?_) (by simp only [List.getElem?_toArray, List.getElem?_cons_succ, List.getElem?_cons_zero]; rfl) (by kernel_rfl) (by kernel_rfl) (by kernel_rfl) (by intro _ _ _ h; exact h) (Or.inl ⟨by rfl, ?_⟩) ?_
      rotate_left
      · intro w; go_simp; try with_reducible rfl
      try simp only [Act.put, List.setIfInBounds_toArray, List.set_cons_zero, List.set_cons_succ]
      refine wpAny_take (i := 14) (v := ?_) (by simp only [List.getElem?_toArray, List.getElem?_cons_succ, List.getElem?_cons_zero]; rfl) (by kernel_rfl) (by kernel_rfl) (by kernel_rfl) (by intro _ _ _ h; exact h) (Or.inl ⟨by rfl, ?_⟩) ?_
      rotate_left
      · intro w; go_simp; try with_reducible rfl
      try simp only [Act.put, List.setIfInBounds_toArray, List.set_cons_zero, List.set_cons_succ]
      refine wpAny_ready (rs := [11]) (by kernel_rfl) (by simp) ?_
      refine AllReady.cons (by simp only [List.getElem?_toArray, List.getElem?_cons_succ, List.getElem?_cons_zero]; rfl) (fun K hK => ?_) AllReady.nil
      go_simp
      go_at_call 18
      refine Calls.mono (Bytes_of (n := T) (D3.out.drewN 1) L3.out) ?_
      rintro e w4 ⟨rfl, ho4, hc4⟩
      have D4 := Lib.hid ((D3.out.drewN 1).chg hc4 (fun h => h) (fun _ _ h => h)); have K4 := Lib.hid (((Chg.refl Non w3).drewN 1).trans hc4)
      have C4 := Lib.hid (C3.out.trans K4.out)
      obtain ⟨g4, hg4, hr4⟩ := Rd.of_Own ho4
      have R5 := Lib.hid hr4
      clear hr4 hg4 ho4 hc4
      go_wp2_with fail
      try (refine hK _ _ ?_; clear hK K)
      try simp only [Act.put, List.setIfInBounds_toArray, List.set_cons_zero, List.set_cons_succ]
      refine wpAny_ready (rs := [15]) (by kernel_rfl) (by simp) ?_
      refine AllReady.cons (by simp only [List.getElem?_toArray, List.getElem?_cons_succ, List.getElem?_cons_zero]; rfl) (fun K hK => ?_) AllReady.nil
      go_simp
      go_at_call 10
      refine Calls.mono (SameBytes_yes R5.out (RT.out _ C4.out)) ?_
      rintro e w5 ⟨rfl, q5, rfl⟩
      go_wp2_with fail
      try (refine hK _ _ ?_; clear hK K)
      try simp only [Act.put, List.setIfInBounds_toArray, List.set_cons_zero, List.set_cons_succ]
      refine wpAny_take (i := 16) (v := ?_) (by simp only [List.getElem?_toArray, List.getElem?_cons_succ, List.getElem?_cons_zero]; rfl) (by kernel_rfl) (by kernel_rfl) (by kernel_rfl) (by intro _ _ _ h; exact h) (Or.inl ⟨by rfl, ?_⟩) ?_
      rotate_left
      · intro w; go_simp; try with_reducible rfl
      try simp only [Act.put, List.setIfInBounds_toArray, List.set_cons_zero, List.set_cons_succ]
      refine wpAny_take (i := 17) (v := ?_) (by simp only [List.getElem?_toArray, List.getElem?_cons_succ, List.getElem?_cons_zero]; rfl) (by kernel_rfl) (by kernel_rfl) (by kernel_rfl) (by intro _ _ _ h; exact h) (Or.inl ⟨by rfl, ?_⟩) ?_
      rotate_left
      · intro w; go_simp; try with_reducible rfl
      try simp only [Act.put, List.setIfInBounds_toArray, List.set_cons_zero, List.set_cons_succ]
      refine wpAny_take (i := 18) (v := ?_) (by simp only [List.getElem?_toArray, List.getElem?_cons_succ, List.getElem?_cons_zero]; rfl) (by kernel_rfl) (by kernel_rfl) (by kernel_rfl) (by intro _ _ _ h; exact h) (Or.inl ⟨by rfl, ?_⟩) ?_
      rotate_left
      · intro w; go_simp; try with_reducible rfl
      try simp only [Act.put, List.setIfInBounds_toArray, List.set_cons_zero, List.set_cons_succ]
      refine wpAny_take (i := 19) (v := ?_) (by simp only [List.getElem?_toArray, List.getElem?_cons_succ, List.getElem?_cons_zero]; rfl) (by kernel_rfl) (by kernel_rfl) (by kernel_rfl) (by intro _ _ _ h; exact h) (Or.inl ⟨by rfl, ?_⟩) ?_
      rotate_left
      · intro w; go_simp; try with_reducible rfl
      try simp only [Act.put, List.setIfInBounds_toArray, List.set_cons_zero, List.set_cons_succ]
      refine wpAny_take (i := 20) (v := ?_) (by simp only [List.getElem?_toArray, List.getElem?_cons_succ, List.getElem?_cons_zero]; rfl) (by kernel_rfl) (by kernel_rfl) (by kernel_rfl) (by intro _ _ _ h; exact h) (Or.inl ⟨by rfl, ?_⟩) ?_
      rotate_left
      · intro w; go_simp; try with_reducible rfl
      try simp only [Act.put, List.setIfInBounds_toArray, List.set_cons_zero, List.set_cons_succ]
      refine wpAny_take (i := 21) (v := ?_) (by simp only [List.getElem?_toArray, List.getElem?_cons_succ, List.getElem?_cons_zero]; rfl) (by kernel_rfl) (by kernel_rfl) (by kernel_rfl) (by intro _ _ _ h; exact h) (Or.inl ⟨by rfl, ?_⟩) ?_
      rotate_left
      · intro w; go_simp; try with_reducible rfl
      try simp only [Act.put, List.setIfInBounds_toArray, List.set_cons_zero, List.set_cons_succ]
      refine wpAny_take (i := 22) (v := ?_) (by simp only [List.getElem?_toArray, List.getElem?_cons_succ, List.getElem?_cons_zero]; rfl) (by kernel_rfl) (by kernel_rfl) (by kernel_rfl) (by intro _ _ _ h; exact h) (Or.inl ⟨by rfl, ?_⟩) ?_
      rotate_left
      · intro w; go_simp; try with_reducible rfl
      try simp only [Act.put, List.setIfInBounds_toArray, List.set_cons_zero, List.set_cons_succ]
      refine wpAny_take (i := 23) (v := ?_) (by simp only [List.getElem?_toArray, List.getElem?_cons_succ, List.getElem?_cons_zero]; rfl) (by kernel_rfl) (by kernel_rfl) (by kernel_rfl) (by intro _ _ _ h; exact h) (Or.inl ⟨by rfl, ?_⟩) ?_
      rotate_left
      · intro w; go_simp; try with_reducible rfl
      try simp only [Act.put, List.setIfInBounds_toArray, List.set_cons_zero, List.set_cons_succ]
      refine wpAny_take (i := 24) (v := undef) (by simp only [List.getElem?_toArray, List.getElem?_cons_succ, List.getElem?_cons_zero]; rfl) (by kernel_rfl) (by kernel_rfl) (by kernel_rfl) (by intro _ _ _ h; exact h) (Or.inr ⟨by rfl, rfl⟩) ?_
      try simp only [Act.put, List.setIfInBounds_toArray, List.set_cons_zero, List.set_cons_succ]
      refine wpAny_take (i := 25) (v := undef) (by simp only [List.getElem?_toArray, List.getElem?_cons_succ, List.getElem?_cons_zero]; rfl) (by kernel_rfl) (by kernel_rfl) (by kernel_rfl) (by intro _ _ _ h; exact h) (Or.inr ⟨by rfl, rfl⟩) ?_
      try simp only [Act.put, List.setIfInBounds_toArray, List.set_cons_zero, List.set_cons_succ]
      refine wpAny_take (i := 26) (v := undef) (by simp only [List.getElem?_toArray, List.getElem?_cons_succ, List.getElem?_cons_zero]; rfl) (by kernel_rfl) (by kernel_rfl) (by kernel_rfl) (by intro _ _ _ h; exact h) (Or.inr ⟨by rfl, rfl⟩) ?_
      try simp only [Act.put, List.setIfInBounds_toArray, List.set_cons_zero, List.set_cons_succ]
      refine wpAny_take (i := 27) (v := undef) (by simp only [List.getElem?_toArray, List.getElem?_cons_succ, List.getElem?_cons_zero]; rfl) (by kernel_rfl) (by kernel_rfl) (by kernel_rfl) (by intro _ _ _ h; exact h) (Or.inr ⟨by rfl, rfl⟩) ?_
      try simp only [Act.put, List.setIfInBounds_toArray, List.set_cons_zero, List.set_cons_succ]
      refine wpAny_take (i := 28) (v := ?_) (by simp only [List.getElem?_toArray, List.getElem?_cons_succ, List.getElem?_cons_zero]; rfl) (by kernel_rfl) (by kernel_rfl) (by kernel_rfl) (by intro _ _ _ h; exact h) (Or.inl ⟨by rfl, ?_⟩) ?_
      rotate_left
      · intro w; go_simp; try with_reducible rfl
      try simp only [Act.put, List.setIfInBounds_toArray, List.set_cons_zero, List.set_cons_succ]
      refine wpAny_take (i := 29) (v := ?_) (by simp only [List.getElem?_toArray, List.getElem?_cons_succ, List.getElem?_cons_zero]; rfl) (by kernel_rfl) (by kernel_rfl) (by kernel_rfl) (by intro _ _ _ h; exact h) (Or.inl ⟨by rfl, ?_⟩) ?_
      rotate_left
      · intro w; go_simp; try with_reducible rfl
      try simp only [Act.put, List.setIfInBounds_toArray, List.set_cons_zero, List.set_cons_succ]
      refine wpAny_take (i := 30) (v := ?_) (by simp only [List.getElem?_toArray, List.getElem?_cons_succ, List.getElem?_cons_zero]; rfl) (by kernel_rfl) (by kernel_rfl) (by kernel_rfl) (by intro _ _ _ h; exact h) (Or.inl ⟨by rfl, ?_⟩) ?_
      rotate_left
      · intro w; go_simp; try with_reducible rfl
      try simp only [Act.put, List.setIfInBounds_toArray, List.set_cons_zero, List.set_cons_succ]
      refine wpAny_take (i := 31) (v := ?_) (by simp only [List.getElem?_toArray, List.getElem?_cons_succ, List.getElem?_cons_zero]; rfl) (by kernel_rfl) (by kernel_rfl) (by kernel_rfl) (by intro _ _ _ h; exact h) (Or.inl ⟨by rfl, ?_⟩) ?_
      rotate_left
      · intro w; go_simp; try with_reducible rfl
      try simp only [Act.put, List.setIfInBounds_toArray, List.set_cons_zero, List.set_cons_succ]
      refine wpAny_take (i := 32) (v := ?_) (by simp only [List.getElem?_toArray, List.getElem?_cons_succ, List.getElem?_cons_zero]; rfl) (by kernel_rfl) (by kernel_rfl) (by kernel_rfl) (by intro _ _ _ h; exact h) (Or.inl ⟨by rfl, ?_⟩) ?_
      rotate_left
      · intro w; go_simp; try with_reducible rfl
      try simp only [Act.put, List.setIfInBounds_toArray, List.set_cons_zero, List.set_cons_succ]
      refine wpAny_take (i := 33) (v := ?_) (by simp only [List.getElem?_toArray, List.getElem?_cons_succ, List.getElem?_cons_zero]; rfl) (by kernel_rfl) (by kernel_rfl) (by kernel_rfl) (by intro _ _ _ h; exact h) (Or.inl ⟨by rfl, ?_⟩) ?_
      rotate_left
      · intro w; go_simp; try with_reducible rfl
      try simp only [Act.put, List.setIfInBounds_toArray, List.set_cons_zero, List.set_cons_succ]
      refine wpAny_take (i := 34) (v := ?_) (by simp only [List.getElem?_toArray, List.getElem?_cons_succ, List.getElem?_cons_zero]; rfl) (by kernel_rfl) (by kernel_rfl) (by kernel_rfl) (by intro _ _ _ h; exact h) (Or.inl ⟨by rfl, ?_⟩) ?_
      rotate_left
      · intro w; go_simp; try with_reducible rfl
      try simp only [Act.put, List.setIfInBounds_toArray, List.set_cons_zero, List.set_cons_succ]
      refine wpAny_take (i := 35) (v := ?_) (by simp only [List.getElem?_toArray, List.getElem?_cons_succ, List.getElem?_cons_zero]; rfl) (by kernel_rfl) (by kernel_rfl) (by kernel_rfl) (by intro _ _ _ h; exact h) (Or.inl ⟨by rfl, ?_⟩) ?_
      rotate_left
      · intro w; go_simp; try with_reducible rfl
      try simp only [Act.put, List.setIfInBounds_toArray, List.set_cons_zero, List.set_cons_succ]
      refine wpAny_take (i := 36) (v := ?_) (by simp only [List.getElem?_toArray, List.getElem?_cons_succ, List.getElem?_cons_zero]; rfl) (by kernel_rfl) (by kernel_rfl) (by kernel_rfl) (by intro _ _ _ h; exact h) (Or.inl ⟨by rfl, ?_⟩) ?_
      rotate_left
      · intro w; go_simp; try with_reducible rfl
      try simp only [Act.put, List.setIfInBounds_toArray, List.set_cons_zero, List.set_cons_succ]
      refine wpAny_ready (rs := [37]) (by kernel_rfl) (by simp) ?_
      refine AllReady.cons (by simp only [List.getElem?_toArray, List.getElem?_cons_succ, List.getElem?_cons_zero]; rfl) (fun K hK => ?_) AllReady.nil
      go_simp
      go_at_call 19
      refine Calls.mono (Sure_of (D4.out.drewN _) (S := 0) (by rfl)) ?_
      rintro e w' ⟨rfl, rfl⟩
      go_wp2_with fail
      try (refine hK _ _ ?_; clear hK K)
      try simp only [Act.put, List.setIfInBounds_toArray, List.set_cons_zero, List.set_cons_succ]
      refine wpAny_take (i := 38) (v := ?_) (by simp only [List.getElem?_toArray, List.getElem?_cons_succ, List.getElem?_cons_zero]; rfl) (by kernel_rfl) (by kernel_rfl) (by kernel_rfl) (by intro _ _ _ h; exact h) (Or.inl ⟨by rfl, ?_⟩) ?_
      rotate_left
      · intro w; go_simp; try with_reducible rfl
      try simp only [Act.put, List.setIfInBounds_toArray, List.set_cons_zero, List.set_cons_succ]
      refine wpAny_take (i := 39) (v := ?_) (by simp only [List.getElem?_toArray, List.getElem?_cons_succ, List.getElem?_cons_zero]; rfl) (by kernel_rfl) (by kernel_rfl) (by kernel_rfl) (by intro _ _ _ h; exact h) (Or.inl ⟨by rfl, ?_⟩) ?_
      rotate_left
      · intro w; go_simp; try with_reducible rfl
      try simp only [Act.put, List.setIfInBounds_toArray, List.set_cons_zero, List.set_cons_succ]
      refine wpAny_take (i := 40) (v := ?_) (by simp only [List.getElem?_toArray, List.getElem?_cons_succ, List.getElem?_cons_zero]; rfl) (by kernel_rfl) (by kernel_rfl) (by kernel_rfl) (by intro _ _ _ h; exact h) (Or.inl ⟨by rfl, ?_⟩) ?_
      rotate_left
      · intro w; go_simp; try with_reducible rfl
      try simp only [Act.put, List.setIfInBounds_toArray, List.set_cons_zero, List.set_cons_succ]
      refine wpAny_done (by kernel_rfl) ?_ _
      have KA : Hid (Chg Non w3 ((w4.drewN q5).alloc (.cells (bookRow 0 (.slice none 0 0) (.slice none 0 0) (.slice none 0 0)) 42 (0, 0)))) := Lib.hid ((K4.out.drewN q5).alloc _)
      have OO : Hid (OpL w ((w4.drewN q5).alloc (.cells (bookRow 0 (.slice none 0 0) (.slice none 0 0) (.slice none 0 0)) 42 (0, 0))) (w4.drewN q5).heap.size rs oa rs.length vs ob k3 us 0) :=
        Lib.hid ⟨⟨[], rfl, BookB.start (C4.out.drewN q5) (by rfl), by simp⟩, O3.out.chg KA.out (fun _ _ h => h), R3.out.chg KA.out (fun _ _ _ _ h => h), O4.out.chg KA.out (fun _ _ h => h), R4.out.chg KA.out (fun _ _ _ _ h => h)⟩
      clear D3 D4 K4 KA C4 R5 RT L3 O3 R3 O4 R4 C3 q1 q2 t0 t1
      go_wp2_with fail
      obtain ⟨k, hk⟩ : ∃ k, k = (w4.drewN q5).heap.size := ⟨_, rfl⟩
      rw [← hk] at OO
      have hk' : w4.heap.size = k := hk.symm
      try rw [hk']
      clear hk hk'
      go_loopw [10] (fun i10 wr => ∃ i, i ≤ rs.length ∧ i10 = .int .i64 (i : Int) ∧ OpL w wr k rs oa rs.length vs ob k3 us i) (fun i10 _ => rs.length - (intOf i10).toNat)
      case atStart => exact ⟨0, by omega, rfl, OO.out⟩
      case round =>
        obtain ⟨i, hi, rfl, hO⟩ := hrel
        by_cases hlt : i < rs.length
        · obtain ⟨r, hr⟩ : ∃ r, rs[i]? = some r := ⟨_, List.getElem?_eq_getElem hlt⟩
          obtain ⟨a5, c5, hv, hz⟩ := hO.r1.at_ i r hr
          obtain ⟨a6, c6, hu, hy⟩ := hO.r2.at_ i r hr
          have hrl : r.length ≤ 20000 := by
            have h1 := startB_succ hr
            have h2 := startB_le FR.out (show i + 1 ≤ rs.length by omega)
            rw [NB.out] at h2
            omega
          have hst := fun z => OpL.step (hO.keep z) (by omega) hr (by omega) hv
          obtain ⟨N, hN⟩ : ∃ N, r.length = N := ⟨_, rfl⟩
          rw [hN] at hv hz hu hy hrl
          simp only [hN] at hst
          obtain ⟨b5, -, rd5⟩ := hz.rd
          obtain ⟨b6, -, rd6⟩ := hy.rd
          rcases hO.o1.case with ⟨_, ow1⟩ | ⟨hbad, _, _⟩
          rotate_left
          · omega
          rcases hO.o2.case with ⟨hp6, ow2⟩ | ⟨hbad, _, _⟩
          rotate_left
          · omega
          obtain ⟨g1, rfl, _, _, _, cc1, _⟩ := ow1.form (by omega)
          obtain ⟨g2, rfl, _, _, _, cc2, _⟩ := ow2.form hp6
          have d1 : wr.cell? ⟨g1, i, none⟩ = some (.slice a5 N c5) := by rw [cc1 i (by omega), hv]
          have d2 : wr.cell? ⟨g2, i, none⟩ = some (.slice a6 N c6) := by rw [cc2 i (by omega), hu]
          have i0 : (0 : Int) ≤ (i : Int) := by omega
          have i1 : (i : Int) < (rs.length : Int) := by omega
          have SM := Lib.hid (fun z => SameBytes_yes (rd5.drewN z) (rd6.drewN z))
          have ST := Lib.hid hst
          have HO := Lib.hid hO
          clear hr hv hz hu hy hst hN rd5 rd6 ow1 ow2 cc1 cc2 hO hp6 OO
          go_wp2_with fail
          go_quiet ((go_at_call 10; exact Calls.quiet_of (SM.out _)))
          go_wp2_with fail
          refine Calls.mono (ST.out _) ?_
          rintro e w7 ⟨⟨v7, rfl⟩, hO7⟩
          have O7 := Lib.hid hO7
          clear hO7
          go_wp2_with fail
          go_roundw
          case rel => exact ⟨i + 1, by omega, by go_num, O7.out⟩
          case measure => simp [intOf]; omega
        · obtain rfl : i = rs.length := by omega
          obtain ⟨L, hL, hb, _⟩ := hO.bk
          have HB := Lib.hid hb
          clear hO hb
          go_wp2_with (first
            | (go_at_call 13; refine Calls.mono (Apart_book HB.out (by omega)) ?_; rintro e w9 ⟨rfl, hc9⟩; have C9 := Lib.hid hc9; clear hc9)
            | (go_at_call 6; refine Calls.mono (lives20_any _) ?_; rintro e w10 ⟨rfl, hc10⟩; have C10 := Lib.hid (C9.out.trans hc10); clear hc10))
          go_ret
          exact ⟨rfl, C10.out.belowN⟩
    · have hlt : T < n := by have := List.length_pos_iff.2 hre; omega
      have hs : s2 = T := by rw [S1.out hre, HT.out]
      rw [hs] at D3
      have q1 : decide ((T : Int) < (n : Int)) = true := by simp; omega
      have q2 : ((T : Int) == (n : Int)) = false := by rw [beq_eq_false_iff_ne]; omega
      clear hs hre
      go_wp2_with fail
      refine wp_region_any (by kernel_rfl) ?_
      change wpAny _ _ _ _ _ _ _ (World.drew _)
      refine wpAny_take (i := 0) (v := ?_) (by simp only [List.getElem?_toArray, List.getElem?_cons_succ, List.getElem?_cons_zero]; rfl) (by kernel_rfl) (by kernel_rfl) (by kernel_rfl) (by intro _ _ _ h; exact h) (Or.inl ⟨by rfl, ?_⟩) ?_
      rotate_left
      · intro w; go_simp; try with_reducible rfl
      try simp only [Act.put, List.setIfInBounds_toArray, List.set_cons_zero, List.set_cons_succ]
      refine wpAny_take (i := 1) (v := ?_) (by simp only [List.getElem?_toArray, List.getElem?_cons_succ, List.getElem?_cons_zero]; rfl) (by kernel_rfl) (by kernel_rfl) (by kernel_rfl) (by intro _ _ _ h; exact h) (Or.inl ⟨by rfl, ?_⟩) ?_
      rotate_left
      · intro w; go_simp; try with_reducible rfl
      try simp only [Act.put, List.setIfInBounds_toArray, List.set_cons_zero, List.set_cons_succ]
      refine wpAny_take (i := 2) (v := ?_) (by simp only [List.getElem?_toArray, List.getElem?_cons_succ, List.getElem?_cons_zero]; rfl) (by kernel_rfl) (by kernel_rfl) (by kernel_rfl) (by intro _ _ _ h; exact h) (Or.inl ⟨by rfl, ?_⟩) ?_
      rotate_left
      · intro w; go_simp; try with_reducible rfl
      try simp only [Act.put, List.setIfInBounds_toArray, List.set_cons_zero, List.set_cons_succ]
      refine wpAny_take (i := 3) (v := ?_) (by simp only [List.getElem?_toArray, List.getElem?_cons_succ, List.getElem?_cons_zero]; rfl) (by kernel_rfl) (by kernel_rfl) (by kernel_rfl) (by intro _ _ _ h; exact h) (Or.inl ⟨by rfl, ?_⟩) ?_
      rotate_left
      · intro w; go_simp; try with_reducible rfl
      try simp only [Act.put, List.setIfInBounds_toArray, List.set_cons_zero, List.set_cons_succ]
      refine wpAny_take (i := 4) (v := ?_) (by simp only [List.getElem?_toArray, List.getElem?_cons_succ, List.getElem?_cons_zero]; rfl) (by kernel_rfl) (by kernel_rfl) (by kernel_rfl) (by intro _ _ _ h; exact h) (Or.inl ⟨by rfl, ?_⟩) ?_
      rotate_left
      · intro w; go_simp; try with_reducible rfl
      try simp only [Act.put, List.setIfInBounds_toArray, List.set_cons_zero, List.set_cons_succ]
      refine wpAny_take (i := 5) (v := ?_) (by simp only [List.getElem?_toArray, List.getElem?_cons_succ, List.getElem?_cons_zero]; rfl) (by kernel_rfl) (by kernel_rfl) (by kernel_rfl) (by intro _ _ _ h; exact h) (Or.inl ⟨by rfl, ?_⟩) ?_
      rotate_left
      · intro w; go_simp; try with_reducible rfl
      try simp only [Act.put, List.setIfInBounds_toArray, List.set_cons_zero, List.set_cons_succ]
      refine wpAny_take (i := 6) (v := ?_) (by simp only [List.getElem?_toArray, List.getElem?_cons_succ, List.getElem?_cons_zero]; rfl) (by kernel_rfl) (by kernel_rfl) (by kernel_rfl) (by intro _ _ _ h; exact h) (Or.inl ⟨by rfl, ?_⟩) ?_
      rotate_left
      · intro w; go_simp; try with_reducible rfl
      try simp only [Act.put, List.setIfInBounds_toArray, List.set_cons_zero, List.set_cons_succ]
      refine wpAny_take (i := 7) (v := ?_) (by simp only [List.getElem?_toArray, List.getElem?_cons_succ, List.getElem?_cons_zero]; rfl) (by kernel_rfl) (by kernel_rfl) (by kernel_rfl) (by intro _ _ _ h; exact h) (Or.inl ⟨by rfl, ?_⟩) ?_
      rotate_left
      · intro w; go_simp; try with_reducible rfl
      try simp only [Act.put, List.setIfInBounds_toArray, List.set_cons_zero, List.set_cons_succ]
      refine wpAny_take (i := 8) (v := ?_) (by simp only [List.getElem?_toArray, List.getElem?_cons_succ, List.getElem?_cons_zero]; rfl) (by kernel_rfl) (by kernel_rfl) (by kernel_rfl) (by intro _ _ _ h; exact h) (Or.inl ⟨by rfl, ?_⟩) ?_
      rotate_left
      · intro w; go_simp; try with_reducible rfl
      try simp only [Act.put, List.setIfInBounds_toArray, List.set_cons_zero, List.set_cons_succ]
      refine wpAny_take (i := 9) (v := ?_) (by simp only [List.getElem?_toArray, List.getElem?_cons_succ, List.getElem?_cons_zero]; rfl) (by kernel_rfl) (by kernel_rfl) (by kernel_rfl) (by intro _ _ _ h; exact h) (Or.inl ⟨by rfl, ?_⟩) ?_
      rotate_left
      · intro w; go_simp; try with_reducible rfl
      try simp only [Act.put, List.setIfInBounds_toArray, List.set_cons_zero, List.set_cons_succ]
      refine wpAny_take (i := 10) (v := ?_) (by simp only [List.getElem?_toArray, List.getElem?_cons_succ, List.getElem?_cons_zero]; rfl) (by kernel_rfl) (by kernel_rfl) (by kernel_rfl) (by intro _ _ _ h; exact h) (Or.inl ⟨by rfl, ?_⟩) ?_
      rotate_left
      · intro w; go_simp; try with_reducible rfl
      try simp only [Act.put, List.setIfInBounds_toArray, List.set_cons_zero, List.set_cons_succ]
      refine wpAny_take (i := 12) (v := ?_) (by simp only [List.getElem?_toArray, List.getElem?_cons_succ, List.getElem?_cons_zero]; rfl) (by kernel_rfl) (by kernel_rfl) (by kernel_rfl) (by intro _ _ _ h; exact h) (Or.inl ⟨by rfl, ?_⟩) ?_
      rotate_left
      · intro w; go_simp; try with_reducible rfl
      try simp only [Act.put, List.setIfInBounds_toArray, List.set_cons_zero, List.set_cons_succ]
      refine wpAny_take (i := 13) (v := ?_) (by simp only [List.getElem?_toArray, List.getElem?_cons_succ, List.getElem?_cons_zero]; rfl) (by kernel_rfl) (by kernel_rfl) (by kernel_rfl) (by intro _ _ _ h; exact h) (Or.inl ⟨by rfl, ?_⟩) ?_
      rotate_left
      · intro w; go_simp; try with_reducible rfl
      try simp only [Act.put, List.setIfInBounds_toArray, List.set_cons_zero, List.set_cons_succ]
      refine wpAny_take (i := 14) (v := ?_) (by simp only [List.getElem?_toArray, List.getElem?_cons_succ, List.getElem?_cons_zero]; rfl) (by kernel_rfl) (by kernel_rfl) (by kernel_rfl) (by intro _ _ _ h; exact h) (Or.inl ⟨by rfl, ?_⟩) ?_
      rotate_left
      · intro w; go_simp; try with_reducible rfl
      try simp only [Act.put, List.setIfInBounds_toArray, List.set_cons_zero, List.set_cons_succ]
      refine wpAny_ready (rs := [11]) (by kernel_rfl) (by simp) ?_
      refine AllReady.cons (by simp only [List.getElem?_toArray, List.getElem?_cons_succ, List.getElem?_cons_zero]; rfl) (fun K hK => ?_) AllReady.nil
      go_simp
      go_at_call 18
      refine Calls.mono (Bytes_of (n := T) (D3.out.drewN 1) L3.out) ?_
      rintro e w4 ⟨rfl, ho4, hc4⟩
      have D4 := Lib.hid ((D3.out.drewN 1).chg hc4 (fun h => h) (fun _ _ h => h)); have K4 := Lib.hid (((Chg.refl Non w3).drewN 1).trans hc4)
      have C4 := Lib.hid (C3.out.trans K4.out)
      obtain ⟨g4, hg4, hr4⟩ := Rd.of_Own ho4
      have R5 := Lib.hid hr4
      clear hr4 hg4 ho4 hc4
      go_wp2_with fail
      try (refine hK _ _ ?_; clear hK K)
      try simp only [Act.put, List.setIfInBounds_toArray, List.set_cons_zero, List.set_cons_succ]
      refine wpAny_ready (rs := [15]) (by kernel_rfl) (by simp) ?_
      refine AllReady.cons (by simp only [List.getElem?_toArray, List.getElem?_cons_succ, List.getElem?_cons_zero]; rfl) (fun K hK => ?_) AllReady.nil
      go_simp
      go_at_call 10
      refine Calls.mono (SameBytes_yes R5.out (RT.out _ C4.out)) ?_
      rintro e w5 ⟨rfl, q5, rfl⟩
      go_wp2_with fail
      try (refine hK _ _ ?_; clear hK K)
      try simp only [Act.put, List.setIfInBounds_toArray, List.set_cons_zero, List.set_cons_succ]
      refine wpAny_take (i := 16) (v := ?_) (by simp only [List.getElem?_toArray, List.getElem?_cons_succ, List.getElem?_cons_zero]; rfl) (by kernel_rfl) (by kernel_rfl) (by kernel_rfl) (by intro _ _ _ h; exact h) (Or.inl ⟨by rfl, ?_⟩) ?_
      rotate_left
      · intro w; go_simp; try with_reducible rfl
      try simp only [Act.put, List.setIfInBounds_toArray, List.set_cons_zero, List.set_cons_succ]
      refine wpAny_take (i := 17) (v := ?_) (by simp only [List.getElem?_toArray, List.getElem?_cons_succ, List.getElem?_cons_zero]; rfl) (by kernel_rfl) (by kernel_rfl) (by kernel_rfl) (by intro _ _ _ h; exact h) (Or.inl ⟨by rfl, ?_⟩) ?_
      rotate_left
      · intro w; go_simp; try with_reducible rfl
      try simp only [Act.put, List.setIfInBounds_toArray, List.set_cons_zero, List.set_cons_succ]
      refine wpAny_take (i := 18) (v := ?_) (by simp only [List.getElem?_toArray, List.getElem?_cons_succ, List.getElem?_cons_zero]; rfl) (by kernel_rfl) (by kernel_rfl) (by kernel_rfl) (by intro _ _ _ h; exact h) (Or.inl ⟨by rfl, ?_⟩) ?_
      rotate_left
      · intro w; go_simp; try with_reducible rfl
      try simp only [Act.put, List.setIfInBounds_toArray, List.set_cons_zero, List.set_cons_succ]
      refine wpAny_take (i := 19) (v := ?_) (by simp only [List.getElem?_toArray, List.getElem?_cons_succ, List.getElem?_cons_zero]; rfl) (by kernel_rfl) (by kernel_rfl) (by kernel_rfl) (by intro _ _ _ h; exact h) (Or.inl ⟨by rfl, ?_⟩) ?_
      rotate_left
      · intro w; go_simp; try with_reducible rfl
      try simp only [Act.put, List.setIfInBounds_toArray, List.set_cons_zero, List.set_cons_succ]
      refine wpAny_take (i := 20) (v := ?_) (by simp only [List.getElem?_toArray, List.getElem?_cons_succ, List.getElem?_cons_zero]; rfl) (by kernel_rfl) (by kernel_rfl) (by kernel_rfl) (by intro _ _ _ h; exact h) (Or.inl ⟨by rfl, ?_⟩) ?_
      rotate_left
      · intro w; go_simp; try with_reducible rfl
      try simp only [Act.put, List.setIfInBounds_toArray, List.set_cons_zero, List.set_cons_succ]
      refine wpAny_take (i := 21) (v := ?_) (by simp only [List.getElem?_toArray, List.getElem?_cons_succ, List.getElem?_cons_zero]; rfl) (by kernel_rfl) (by kernel_rfl) (by kernel_rfl) (by intro _ _ _ h; exact h) (Or.inl ⟨by rfl, ?_⟩) ?_
      rotate_left
      · intro w; go_simp; try with_reducible rfl
      try simp only [Act.put, List.setIfInBounds_toArray, List.set_cons_zero, List.set_cons_succ]
      refine wpAny_take (i := 22) (v := ?_) (by simp only [List.getElem?_toArray, List.getElem?_cons_succ, List.getElem?_cons_zero]; rfl) (by kernel_rfl) (by kernel_rfl) (by kernel_rfl) (by intro _ _ _ h; exact h) (Or.inl ⟨by rfl, ?_⟩) ?_
      rotate_left
      · intro w; go_simp; try with_reducible rfl
      try simp only [Act.put, List.setIfInBounds_toArray, List.set_cons_zero, List.set_cons_succ]
      refine wpAny_take (i := 23) (v := ?_) (by simp only [List.getElem?_toArray, List.getElem?_cons_succ, List.getElem?_cons_zero]; rfl) (by kernel_rfl) (by kernel_rfl) (by kernel_rfl) (by intro _ _ _ h; exact h) (Or.inl ⟨by rfl, ?_⟩) ?_
      rotate_left
      · intro w; go_simp; try with_reducible rfl
      try simp only [Act.put, List.setIfInBounds_toArray, List.set_cons_zero, List.set_cons_succ]
      refine wpAny_take (i := 24) (v := ?_) (by simp only [List.getElem?_toArray, List.getElem?_cons_succ, List.getElem?_cons_zero]; rfl) (by kernel_rfl) (by kernel_rfl) (by kernel_rfl) (by intro _ _ _ h; exact h) (Or.inl ⟨by rfl, ?_⟩) ?_
      rotate_left
      · intro w; go_simp; try with_reducible rfl
      try simp only [Act.put, List.setIfInBounds_toArray, List.set_cons_zero, List.set_cons_succ]
      refine wpAny_take (i := 26) (v := ?_) (by simp only [List.getElem?_toArray, List.getElem?_cons_succ, List.getElem?_cons_zero]; rfl) (by kernel_rfl) (by kernel_rfl) (by kernel_rfl) (by intro _ _ _ h; exact h) (Or.inl ⟨by rfl, ?_⟩) ?_
      rotate_left
      · intro w; go_simp; try with_reducible rfl
      try simp only [Act.put, List.setIfInBounds_toArray, List.set_cons_zero, List.set_cons_succ]
      refine wpAny_ready (rs := [25]) (by kernel_rfl) (by simp) ?_
      refine AllReady.cons (by simp only [List.getElem?_toArray, List.getElem?_cons_succ, List.getElem?_cons_zero]; rfl) (fun K hK => ?_) AllReady.nil
      go_simp
      go_at_call 19
      refine Calls.mono (Sure_of (D4.out.drewN _) (S := (T : Int)) (by rfl)) ?_
      rintro e w' ⟨rfl, rfl⟩
      go_wp2_with fail
      try (refine hK _ _ ?_; clear hK K)
      try simp only [Act.put, List.setIfInBounds_toArray, List.set_cons_zero, List.set_cons_succ]
      refine wpAny_take (i := 27) (v := ?_) (by simp only [List.getElem?_toArray, List.getElem?_cons_succ, List.getElem?_cons_zero]; rfl) (by kernel_rfl) (by kernel_rfl) (by kernel_rfl) (by intro _ _ _ h; exact h) (Or.inl ⟨by rfl, ?_⟩) ?_
      rotate_left
      · intro w; go_simp; try with_reducible rfl
      try simp only [Act.put, List.setIfInBounds_toArray, List.set_cons_zero, List.set_cons_succ]
      refine wpAny_take (i := 28) (v := ?_) (by simp only [List.getElem?_toArray, List.getElem?_cons_succ, List.getElem?_cons_zero]; rfl) (by kernel_rfl) (by kernel_rfl) (by kernel_rfl) (by intro _ _ _ h; exact h) (Or.inl ⟨by rfl, ?_⟩) ?_
      rotate_left
      · intro w; go_simp; try with_reducible rfl
      try simp only [Act.put, List.setIfInBounds_toArray, List.set_cons_zero, List.set_cons_succ]
      refine wpAny_take (i := 29) (v := ?_) (by simp only [List.getElem?_toArray, List.getElem?_cons_succ, List.getElem?_cons_zero]; rfl) (by kernel_rfl) (by kernel_rfl) (by kernel_rfl) (by intro _ _ _ h; exact h) (Or.inl ⟨by rfl, ?_⟩) ?_
      rotate_left
      · intro w; go_simp; try with_reducible rfl
      try simp only [Act.put, List.setIfInBounds_toArray, List.set_cons_zero, List.set_cons_succ]
      refine wpAny_take (i := 30) (v := ?_) (by simp only [List.getElem?_toArray, List.getElem?_cons_succ, List.getElem?_cons_zero]; rfl) (by kernel_rfl) (by kernel_rfl) (by kernel_rfl) (by intro _ _ _ h; exact h) (Or.inl ⟨by rfl, ?_⟩) ?_
      rotate_left
      · intro w; go_simp; try with_reducible rfl
      try simp only [Act.put, List.setIfInBounds_toArray, List.set_cons_zero, List.set_cons_succ]
      refine wpAny_take (i := 31) (v := ?_) (by simp only [List.getElem?_toArray, List.getElem?_cons_succ, List.getElem?_cons_zero]; rfl) (by kernel_rfl) (by kernel_rfl) (by kernel_rfl) (by intro _ _ _ h; exact h) (Or.inl ⟨by rfl, ?_⟩) ?_
      rotate_left
      · intro w; go_simp; try with_reducible rfl
      try simp only [Act.put, List.setIfInBounds_toArray, List.set_cons_zero, List.set_cons_succ]
      refine wpAny_take (i := 32) (v := ?_) (by simp only [List.getElem?_toArray, List.getElem?_cons_succ, List.getElem?_cons_zero]; rfl) (by kernel_rfl) (by kernel_rfl) (by kernel_rfl) (by intro _ _ _ h; exact h) (Or.inl ⟨by rfl, ?_⟩) ?_
      rotate_left
      · intro w; go_simp; try with_reducible rfl
      try simp only [Act.put, List.setIfInBounds_toArray, List.set_cons_zero, List.set_cons_succ]
      refine wpAny_take (i := 33) (v := ?_) (by simp only [List.getElem?_toArray, List.getElem?_cons_succ, List.getElem?_cons_zero]; rfl) (by kernel_rfl) (by kernel_rfl) (by kernel_rfl) (by intro _ _ _ h; exact h) (Or.inl ⟨by rfl, ?_⟩) ?_
      rotate_left
      · intro w; go_simp; try with_reducible rfl
      try simp only [Act.put, List.setIfInBounds_toArray, List.set_cons_zero, List.set_cons_succ]
      refine wpAny_take (i := 34) (v := ?_) (by simp only [List.getElem?_toArray, List.getElem?_cons_succ, List.getElem?_cons_zero]; rfl) (by kernel_rfl) (by kernel_rfl) (by kernel_rfl) (by intro _ _ _ h; exact h) (Or.inl ⟨by rfl, ?_⟩) ?_
      rotate_left
      · intro w; go_simp; try with_reducible rfl
      try simp only [Act.put, List.setIfInBounds_toArray, List.set_cons_zero, List.set_cons_succ]
      refine wpAny_take (i := 35) (v := ?_) (by simp only [List.getElem?_toArray, List.getElem?_cons_succ, List.getElem?_cons_zero]; rfl) (by kernel_rfl) (by kernel_rfl) (by kernel_rfl) (by intro _ _ _ h; exact h) (Or.inl ⟨by rfl, ?_⟩) ?_
      rotate_left
      · intro w; go_simp; try with_reducible rfl
      try simp only [Act.put, List.setIfInBounds_toArray, List.set_cons_zero, List.set_cons_succ]
      refine wpAny_take (i := 36) (v := undef) (by simp only [List.getElem?_toArray, List.getElem?_cons_succ, List.getElem?_cons_zero]; rfl) (by kernel_rfl) (by kernel_rfl) (by kernel_rfl) (by intro _ _ _ h; exact h) (Or.inr ⟨by rfl, rfl⟩) ?_
      try simp only [Act.put, List.setIfInBounds_toArray, List.set_cons_zero, List.set_cons_succ]
      refine wpAny_take (i := 37) (v := undef) (by simp only [List.getElem?_toArray, List.getElem?_cons_succ, List.getElem?_cons_zero]; rfl) (by kernel_rfl) (by kernel_rfl) (by kernel_rfl) (by intro _ _ _ h; exact h) (Or.inr ⟨by rfl, rfl⟩) ?_
      try simp only [Act.put, List.setIfInBounds_toArray, List.set_cons_zero, List.set_cons_succ]
      refine wpAny_take (i := 38) (v := undef) (by simp only [List.getElem?_toArray, List.getElem?_cons_succ, List.getElem?_cons_zero]; rfl) (by kernel_rfl) (by kernel_rfl) (by kernel_rfl) (by intro _ _ _ h; exact h) (Or.inr ⟨by rfl, rfl⟩) ?_
      try simp only [Act.put, List.setIfInBounds_toArray, List.set_cons_zero, List.set_cons_succ]
      refine wpAny_take (i := 39) (v := ?_) (by simp only [List.getElem?_toArray, List.getElem?_cons_succ, List.getElem?_cons_zero]; rfl) (by kernel_rfl) (by kernel_rfl) (by kernel_rfl) (by intro _ _ _ h; exact h) (Or.inl ⟨by rfl, ?_⟩) ?_
      rotate_left
      · intro w; go_simp; try with_reducible rfl
      try simp only [Act.put, List.setIfInBounds_toArray, List.set_cons_zero, List.set_cons_succ]
      refine wpAny_take (i := 40) (v := ?_) (by simp only [List.getElem?_toArray, List.getElem?_cons_succ, List.getElem?_cons_zero]; rfl) (by kernel_rfl) (by kernel_rfl) (by kernel_rfl) (by intro _ _ _ h; exact h) (Or.inl ⟨by rfl, ?_⟩) ?_
      rotate_left
      · intro w; go_simp; try with_reducible rfl
      try simp only [Act.put, List.setIfInBounds_toArray, List.set_cons_zero, List.set_cons_succ]
      refine wpAny_done (by kernel_rfl) ?_ _
      have KA : Hid (Chg Non w3 ((w4.drewN q5).alloc (.cells (bookRow 0 (.slice none 0 0) (.slice none 0 0) (.slice none 0 0)) 42 (0, 0)))) := Lib.hid ((K4.out.drewN q5).alloc _)
      have OO : Hid (OpL w ((w4.drewN q5).alloc (.cells (bookRow 0 (.slice none 0 0) (.slice none 0 0) (.slice none 0 0)) 42 (0, 0))) (w4.drewN q5).heap.size rs oa rs.length vs ob k3 us 0) :=
        Lib.hid ⟨⟨[], rfl, BookB.start (C4.out.drewN q5) (by rfl), by simp⟩, O3.out.chg KA.out (fun _ _ h => h), R3.out.chg KA.out (fun _ _ _ _ h => h), O4.out.chg KA.out (fun _ _ h => h), R4.out.chg KA.out (fun _ _ _ _ h => h)⟩
      clear D3 D4 K4 KA C4 R5 RT L3 O3 R3 O4 R4 C3 q1 q2 t0 t1
      go_wp2_with fail
      obtain ⟨k, hk⟩ : ∃ k, k = (w4.drewN q5).heap.size := ⟨_, rfl⟩
      rw [← hk] at OO
      have hk' : w4.heap.size = k := hk.symm
      try rw [hk']
      clear hk hk'
      go_loopw [10] (fun i10 wr => ∃ i, i ≤ rs.length ∧ i10 = .int .i64 (i : Int) ∧ OpL w wr k rs oa rs.length vs ob k3 us i) (fun i10 _ => rs.length - (intOf i10).toNat)
      case atStart => exact ⟨0, by omega, rfl, OO.out⟩
      case round =>
        obtain ⟨i, hi, rfl, hO⟩ := hrel
        by_cases hlt : i < rs.length
        · obtain ⟨r, hr⟩ : ∃ r, rs[i]? = some r := ⟨_, List.getElem?_eq_getElem hlt⟩
          obtain ⟨a5, c5, hv, hz⟩ := hO.r1.at_ i r hr
          obtain ⟨a6, c6, hu, hy⟩ := hO.r2.at_ i r hr
          have hrl : r.length ≤ 20000 := by
            have h1 := startB_succ hr
            have h2 := startB_le FR.out (show i + 1 ≤ rs.length by omega)
            rw [NB.out] at h2
            omega
          have hst := fun z => OpL.step (hO.keep z) (by omega) hr (by omega) hv
          obtain ⟨N, hN⟩ : ∃ N, r.length = N := ⟨_, rfl⟩
          rw [hN] at hv hz hu hy hrl
          simp only [hN] at hst
          obtain ⟨b5, -, rd5⟩ := hz.rd
          obtain ⟨b6, -, rd6⟩ := hy.rd
          rcases hO.o1.case with ⟨_, ow1⟩ | ⟨hbad, _, _⟩
          rotate_left
          · omega
          rcases hO.o2.case with ⟨hp6, ow2⟩ | ⟨hbad, _, _⟩
          rotate_left
          · omega
          obtain ⟨g1, rfl, _, _, _, cc1, _⟩ := ow1.form (by omega)
          obtain ⟨g2, rfl, _, _, _, cc2, _⟩ := ow2.form hp6
          have d1 : wr.cell? ⟨g1, i, none⟩ = some (.slice a5 N c5) := by rw [cc1 i (by omega), hv]
          have d2 : wr.cell? ⟨g2, i, none⟩ = some (.slice a6 N c6) := by rw [cc2 i (by omega), hu]
          have i0 : (0 : Int) ≤ (i : Int) := by omega
          have i1 : (i : Int) < (rs.length : Int) := by omega
          have SM := Lib.hid (fun z => SameBytes_yes (rd5.drewN z) (rd6.drewN z))
          have ST := Lib.hid hst
          have HO := Lib.hid hO
          clear hr hv hz hu hy hst hN rd5 rd6 ow1 ow2 cc1 cc2 hO hp6 OO
          go_wp2_with fail
          go_quiet ((go_at_call 10; exact Calls.quiet_of (SM.out _)))
          go_wp2_with fail
          refine Calls.mono (ST.out _) ?_
          rintro e w7 ⟨⟨v7, rfl⟩, hO7⟩
          have O7 := Lib.hid hO7
          clear hO7
          go_wp2_with fail
          go_roundw
          case rel => exact ⟨i + 1, by omega, by go_num, O7.out⟩
          case measure => simp [intOf]; omega
        · obtain rfl : i = rs.length := by omega
          obtain ⟨L, hL, hb, _⟩ := hO.bk
          have HB := Lib.hid hb
          clear hO hb
          go_wp2_with (first
            | (go_at_call 13; refine Calls.mono (Apart_book HB.out (by omega)) ?_; rintro e w9 ⟨rfl, hc9⟩; have C9 := Lib.hid hc9; clear hc9)
            | (go_at_call 6; refine Calls.mono (lives20_any _) ?_; rintro e w10 ⟨rfl, hc10⟩; have C10 := Lib.hid (C9.out.trans hc10); clear hc10))
          go_ret
          exact ⟨rfl, C10.out.belowN⟩
end Go.Proofs.YtbmopcmhokpchaaGreatDoor
