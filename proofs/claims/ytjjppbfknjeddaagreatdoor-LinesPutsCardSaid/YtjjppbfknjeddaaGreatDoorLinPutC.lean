/- Put, New, Left: their contracts. -/
import Derived.Test.YtjjppbfknjeddaaGreatDoorLinPutW
import Derived.WalkMore
namespace Go.Proofs.YtjjppbfknjeddaaGreatDoor
open Go.RowKit Go.Shelf
set_option linter.unusedVariables false
set_option linter.unusedSimpArgs false
attribute [local go_sem ↓] Go.wp_at_zero Go.wp_at_succ
def lenV : Value → Nat | .slice _ n _ => n | _ => 0
set_option maxRecDepth 40000 in
set_option maxHeartbeats 4000000 in
theorem Put_any {w : World} {B r p b2 : Nat} {ao : Option Addr} {cap : Nat} {s : List UInt8} (hR : w.heap[r]? = some (.cells #[.pointer (some ⟨p, 0, none⟩)] 57 (0, 0))) (h : LinAt w B p ao cap s) {a1 : Option Addr} {n c1 : Nat} {bs : List UInt8} (hr : Rd w b2 a1 n c1 bs)
    (hb2 : 0 < n → b2 < w.heap.size ∧ b2 ≠ p ∧ some b2 ≠ blk ao) (hrp : r ≠ p ∧ some r ≠ blk ao) (hn : n ≤ 1000000) :
    Calls Tryz.prog 8 #[.pointer (some ⟨r, 0, none⟩), .slice a1 n c1] w fun e w' => ∃ la lc oa oc ao' cap', e = .returned (.tuple #[.slice la (putB s bs).length lc, .slice oa (putB s bs).length oc, .int .i64 0]) ∧
      PutM w w' B p b2 ao [] none 0 la lc (putB s bs).length (txts (putB s bs)) oa oc (putB s bs).length (bols (putB s bs)) ao' cap' (restB s bs) := by
  have hbl := hr.1
  subst hbl
  have M0 : Hid (PutM w w B p b2 ao bs a1 c1 none 0 0 [] none 0 0 [] ao cap s) := Lib.hid ⟨hr, Own.nil _ _ _ _, Own.nil _ _ _ _, h, Chg.refl _ _, fun k hk => .inl hk, fun i hi => by simp [blk] at hi, fun i hi => by simp [blk] at hi, fun i hi => by simp [blk] at hi, h.lt, hb2⟩
  have rc : ∀ (wr : World), Chg (fun k => k = p ∨ some k = blk ao) w wr → wr.cell? ⟨r, 0, none⟩ = some (.pointer (some ⟨p, 0, none⟩)) := fun wr hc => by
    rw [cell_of_row _ r 0 _ _ _ ((hc.block r (Array.getElem?_eq_some_iff.1 hR).1 (fun e => e.elim hrp.1 hrp.2)).trans hR)]; rfl
  have RC := Lib.hid rc
  have r0 := rc w (Chg.refl _ w)
  clear rc h hr hb2 hR hrp
  obtain ⟨i1, hi1, hi2, hi3, hi4⟩ := info_parts Tryz.info_str
  have Hs1 := Lib.hid hi1; have Hs2 := Lib.hid hi2; have Hs3 := Lib.hid hi3; have Hs4 := Lib.hid hi4
  clear hi1 hi2 hi3 hi4
  obtain ⟨i2, hi1, hi2, hi3, hi4⟩ := info_parts Tryz.info_bool
  have Hb1 := Lib.hid hi1; have Hb2 := Lib.hid hi2; have Hb3 := Lib.hid hi3; have Hb4 := Lib.hid hi4
  clear hi1 hi2 hi3 hi4
  go_enter Tryz.func8, Tryz.ntmps8
  go_wp2_with fail
  go_step3
  go_wp2_with fail
  go_step3
  go_wp2_with fail
  go_loopw [1, 4, 5] (fun v1 v4 v5 wr => ∃ (pre post : List UInt8) (a2 : Option Addr) (c2 : Nat) (la : Option Addr) (lc : Nat) (oa : Option Addr) (oc m : Nat) (ao' : Option Addr) (cap' n2 : Nat), bs = pre ++ post ∧ v1 = .slice a2 n2 c2 ∧ post.length = n2 ∧ v4 = .slice la m lc ∧ v5 = .slice oa m oc ∧ m = (putB s pre).length ∧ PutM w wr B p b2 ao post a2 c2 la lc m (txts (putB s pre)) oa oc m (bols (putB s pre)) ao' cap' (restB s pre)) (fun v1 _ _ _ => lenV v1)
  case atStart => exact ⟨[], bs, a1, c1, none, 0, none, 0, 0, ao, cap, bs.length, rfl, rfl, rfl, rfl, rfl, rfl, M0.out⟩
  case round =>
    obtain ⟨pre, post, a2, c2, la, lc, oa, oc, m, ao', cap', n2, hbs, rfl, hn2, rfl, rfl, hm, hM⟩ := hrel
    have N2 := Lib.hid hn2
    have hrd := hM.rd
    rw [hn2] at hrd
    have RD := Lib.hid hrd
    have hn2b : n2 ≤ bs.length := by rw [hbs, ← hn2]; simp
    clear hn2 hrd
    have rwr := RC.out wr hM.chg
    have HM := Lib.hid hM; have HBS := Lib.hid hbs; have Hm := Lib.hid hm
    have hml : m ≤ bs.length := by rw [hm, putB_len, hbs]; exact Nat.le_trans (List.count_le_length) (by simp)
    clear hM hbs hm
    rcases indexByte_ten post with ⟨hz, hno⟩ | ⟨l, q, hpost, hz, hno⟩
    · have HZ := Lib.hid hz; have HN := Lib.hid hno
      clear hz hno
      go_wp2_with (first
        | (go_at_call 18; refine Calls.mono (IndexByte_ten RD.out HZ.out) ?_; rintro e w' ⟨rfl, rfl⟩)
        | (go_at_call 19; refine Calls.mono (keep_any HM.out.st RD.out) ?_; rintro e w1 ⟨rfl, ao1, cap1, hl1, hc1, hb1⟩; have M1 := Lib.hid (HM.out.kept hl1 hc1 hb1); clear hl1 hc1 hb1))
      have hpp := put_plain post (s := restB s pre) [] HM.out.st.le HN.out
      have hap := putB_append pre s post
      rw [List.append_nil] at hpp
      simp only [putB, restB] at hpp
      rw [hpp.1, List.append_nil, ← HBS.out] at hap
      rw [hpp.2] at hap
      have hL : m = (putB s bs).length := by rw [hap.1]; exact Hm.out
      subst hL
      rw [Exit.noGoto_ret]
      go_ret3
      have hf := M1.out.rest (r := []) (a2 := none) (c2 := 0) (Rd.nil _ _) (by simp)
      refine ⟨la, lc, oa, oc, ao1, cap1, rfl, ?_⟩
      rw [hap.1, hap.2]
      rw [hap.1] at hf
      exact hf
    · subst hpost
      have HZ := Lib.hid hz; have HN := Lib.hid hno
      have hl9 : l.length ≤ n2 := by rw [← N2.out]; simp
      obtain ⟨sl1, rd1⟩ := RD.out.upto (P := Tryz.prog) (t := 42) Tryz.underlying42 (by kernel_rfl) .i64 (m := l.length) hl9
      rw [List.take_left' rfl] at rd1
      have RD1 := Lib.hid rd1
      clear hz hno rd1
      have hlen : ¬ (l.length : Int) < 0 := by omega
      go_wp2_with (go_at_call 18; refine Calls.mono (IndexByte_ten RD.out HZ.out) ?_; rintro e w' ⟨rfl, rfl⟩)
      go_region_held3 (fun w' => w'.cell? ⟨r, 0, none⟩ = some (.pointer (some ⟨p, 0, none⟩))) (first | exact rwr | exact rw1 | skip) ((go_at_call 19; refine Calls.mono (keep_any (w := wr.drew) (HM.out.st.drewN 1) (RD1.out.drewN 1)) ?_; rintro e w1 ⟨rfl, ao1, cap1, hl1, hc1, hb1⟩; have M1 := Lib.hid (PutM.kept HM.out hl1 (Chg.from_drew_iff.1 hc1) hb1); have rw1 := RC.out w1 M1.out.chg; clear hl1 hc1 hb1))
      clear rwr
      obtain ⟨lb, hlb⟩ : ∃ lb, lineB (keepB (restB s pre) l) = lb := ⟨_, rfl⟩
      have LB := Lib.hid hlb
      clear hlb
      go_wp2_with (first
        | (go_at_call 20; refine Calls.mono (line_any M1.out.st) ?_; rw [LB.out]; rintro e w2 ⟨rfl, hc2⟩; have M2 := Lib.hid (M1.out.quiet hc2); have rw2 := RC.out w2 M2.out.chg; clear hc2 rw1)
        | (at_builtin; refine wpList_append_Own rfl _ _ 44 44 rfl w.heap.size 9 1 16 i1 (.string ⟨#[]⟩) Tryz.underlying44 Hs1.out Hs2.out Hs3.out rfl Hs4.out la m lc _ rfl (M2.out.ot.alloc _) _ 1 _ rfl (Src.cells Tryz.underlying44 (heap_alloc_new _ _) 1 1 1 (by rfl) (by simp [Value.oneCell'])) (by unfold maxLen; omega) (by omega) (by have := M2.out.chg.size; simp; omega) ?_; intro la3 lc3 w3 hown3 hchg3 hb3 _; have M3 := Lib.hid (PutM.text (M2.out.quiet ((Chg.refl _ _).alloc _)) hown3 hchg3 (fun k h => h.1) hb3); have rw3 := RC.out w3 M3.out.chg; clear hown3 hchg3 hb3 rw2)
        | (at_builtin; refine wpList_append_Own rfl _ _ 45 45 rfl w.heap.size 4 1 1 i2 (.bool false) Tryz.underlying45 Hb1.out Hb2.out Hb3.out rfl Hb4.out oa m oc _ rfl (M3.out.ob.alloc _) _ 1 _ rfl (Src.cells Tryz.underlying45 (heap_alloc_new _ _) 1 1 1 (by rfl) (by simp [Value.oneCell'])) (by unfold maxLen; omega) (by omega) (by have := M3.out.chg.size; simp; omega) ?_; intro oa4 oc4 w4 hown4 hchg4 hb4 _; have M4 := Lib.hid (PutM.bools (M3.out.quiet ((Chg.refl _ _).alloc _)) hown4 hchg4 (fun k h => h.1) hb4); have rw4 := RC.out w4 M4.out.chg; have p4 := M4.out.st.c0; obtain ⟨W5, hclr, ho5, hc5⟩ := clear_run M4.out.st.own; have M5 := Lib.hid (M4.out.cleared ho5 hc5); have rw5 : W5.cell? ⟨r, 0, none⟩ = some (.pointer (some ⟨p, 0, none⟩)) := RC.out W5 (M4.out.chg.next hc5 (fun i hi e => by rcases M4.out.old i e with e' | e'; exact .inr e'; omega)); have hp5 : W5.heap[p]? = w4.heap[p]? := hc5.block p M4.out.st.lt (fun e => M4.out.st.apart p e rfl); have p5 : W5.cell? ⟨p, 0, none⟩ = some (.slice ao1 (keepB (restB s pre) l).length cap1) := (by rw [World.cell?_of_block (w := w4) (a := ⟨p, 0, none⟩) hp5]; exact p4); have f5 : W5.frozen? ⟨p, 0, none⟩ = false := (by rw [World.frozen?_of_block (w := w4) (a := ⟨p, 0, none⟩) hp5]; exact M4.out.st.fr 0); obtain ⟨b9, _, hrd9⟩ := Rd.of_Own M4.out.st.own; have sl0 := (hrd9.upto (P := Tryz.prog) (t := 42) Tryz.underlying42 (by kernel_rfl) .i64 (m := 0) (Nat.zero_le _)).1; clear hown4 hchg4 hb4 rw3 hrd9 ho5 hc5 hp5))
      clear hclr p4 rw4
      generalize (keepB (restB s pre) l).length = n5 at p5 sl0
      obtain ⟨a6, sl6, rd6⟩ := RD.out.from_ (P := Tryz.prog) (t := 42) Tryz.underlying42 (by kernel_rfl) .i64 (k := l.length + 1) (by rw [← N2.out]; simp)
      have hdq : (l ++ 10 :: q).drop (l.length + 1) = q := by simp
      rw [hdq] at rd6
      have hq6 : n2 - (l.length + 1) = q.length := by rw [← N2.out]; simp; omega
      rw [show ((l.length + 1 : Nat) : Int) = (l.length : Int) + 1 by omega] at sl6
      generalize c2 - (l.length + 1) = c6 at sl6 rd6
      generalize n2 - (l.length + 1) = n6 at sl6 rd6 hq6
      have RD6 := Lib.hid rd6
      have HQ6 := Lib.hid hq6
      have hpp := put_plain l (s := restB s pre) [10] HM.out.st.le HN.out
      have hap := putB_append pre s (l ++ [10])
      simp only [putB, restB, if_true] at hpp
      rw [LB.out] at hpp
      rw [hpp.1, hpp.2] at hap
      have P1 := Lib.hid hap.1; have P2 := Lib.hid hap.2
      clear rd6 hq6 hdq hpp hap
      go_region_law (fail)
      all_goals clear sl0 p5 f5 rw5
      all_goals
        go_wp2_with fail
        go_roundw
        case rel =>
          refine ⟨pre ++ (l ++ [10]), q, a6, c6, la3, lc3, oa4, oc4, m + 1, ao1, cap1, n6, by rw [HBS.out]; simp, rfl, HQ6.out.symm, rfl, rfl, by rw [P1.out, List.length_append, ← Hm.out]; rfl, ?_⟩
          rw [P1.out, P2.out]
          have e1 : txts (putB s pre ++ [lb]) = txts (putB s pre) ++ [.string ⟨lb.1.toArray⟩] := by simp [txts]
          have e2 : bols (putB s pre ++ [lb]) = bols (putB s pre) ++ [.bool lb.2] := by simp [bols]
          rw [e1, e2]
          have h6 := RD6.out
          rw [HQ6.out] at h6
          refine PutM.onward HM.out (M5.out.quiet ?_) h6 (by simp; omega)
          first | exact Chg.refl _ _ | exact (Chg.refl _ _).drew | exact (Chg.refl _ _).drewN _
        case measure =>
          show n6 < n2
          have h1 := N2.out; have h2 := HQ6.out
          simp at h1
          omega
end Go.Proofs.YtjjppbfknjeddaaGreatDoor
