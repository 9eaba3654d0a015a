/- (*Wheel).down. -/
import Derived.Test.YtbngcepekaicjaaTmUp
namespace Go.Proofs.Ytbngcepekaicjaa
set_option linter.unusedVariables false
open Go.RowKit

def DownP (l : List Wt) (i : Nat) (l' : List Wt) (k : Nat) : Prop := downF l' k = downF l i ∧ l'.length = l.length
set_option maxHeartbeats 4000000 in
set_option maxRecDepth 100000 in
theorem down_any (g b cap i : Nat) (l : List Wt) (r : List Value) (w : World) (hg : Blk w g 54 #[.slice (some ⟨b, 0, none⟩) l.length cap]) (hb : HBk w b l r) (hi : i < l.length) (hl : l.length ≤ 300) :
    Calls Try.prog 30 #[.pointer (some ⟨g, 0, none⟩), .int .i64 i] w fun e w' => Moved w b (downF l i) r e w' := by
  have hne : g ≠ b := hg.ne_ hb (by decide)
  obtain ⟨n, hn⟩ : ∃ n, n = l.length := ⟨_, rfl⟩
  rw [← hn] at hg hl hi
  have HG := Lib.hid hg; have HB := Lib.hid hb; have HN := Lib.hid hn
  have hii : (i : Int) < 300 := by omega
  clear hg hb hn
  go_enter Try.func30, Try.ntmps30
  go_wp2
  go_loopw [1] (fun iv wr => ∃ (k : Nat) (l' : List Wt), k < n ∧ DownP l i l' k ∧ iv = .int .i64 k ∧ HBk wr b l' r ∧ Only w wr b) (fun iv _ => n - (intOf iv).toNat)
  case atStart => exact ⟨i, l, hi, ⟨rfl, rfl⟩, rfl, HB.out, Only.refl _ _⟩
  case round =>
    obtain ⟨j, l', hk, hup, rfl, hbk, ho⟩ := hrel
    have HU := Lib.hid hup; have HBK := Lib.hid hbk; have HO := Lib.hid ho
    clear hup hbk ho HB
    have hln : l'.length = n := by rw [HU.out.2, ← HN.out]
    have HLN := Lib.hid hln
    have hjl : j < l'.length := by omega
    have cg := (HG.out.grown HO.out (by intro e; injection e with e; exact hne e)).cell 0
    simp only [List.getElem?_toArray, List.getElem?_cons_zero] at cg
    have gl := (HG.out.grown HO.out (by intro e; injection e with e; exact hne e)).lt
    have bl := Blk.lt HBK.out
    have hj0 : (0 : Int) ≤ (j : Int) := by omega
    have hjn : (j : Int) < (n : Int) := by omega
    have hn300 : (n : Int) ≤ 300 := by omega
    by_cases hA : 2 * j + 1 < n
    · obtain ⟨m, hm⟩ : ∃ m, m = 2 * j + 1 := ⟨_, rfl⟩
      have em : 2 * (j : Int) + 1 = (m : Int) := by omega
      have hmn : 2 * (j : Int) + 1 < (n : Int) := by omega
      have hm0 : (0 : Int) ≤ (m : Int) := by omega
      have hm1 : (m : Int) < (n : Int) := by omega
      have hml : m < l'.length := by omega
      have EM := Lib.hid em; have HM := Lib.hid hm
      have hAn : j < n := hk
      clear em hm hln hA
      go_wp2_with fail
      simp only [EM.out]
      clear hmn
      obtain ⟨c, hc⟩ : ∃ c, c = ordW (gW l' (m + 1)) (gW l' m) := ⟨_, rfl⟩
      have HCC := Lib.hid hc
      have HC := Lib.hid (order_any (gW l' (m + 1)) (gW l' m) wr.drew)
      rw [← hc] at HC
      clear hc
      have em1 : IntKind.i64.wrap ((m : Int) + 1) = (m : Int) + 1 := IntWalk.i64_in _ (by omega)
      have em2 : ((m : Int) + 1).toNat = m + 1 := by omega
      have em3 : (0 : Int) ≤ (m : Int) + 1 := by omega
      rcases (by omega : (m + 1 < n ∧ c < 0) ∨ (m + 1 < n ∧ ¬ c < 0) ∨ ¬ m + 1 < n) with ⟨hA1, hA2⟩ | ⟨hB1, hB2⟩ | hC1
      · have hm1l : m + 1 < l'.length := by rw [HLN.out]; exact hA1
        have hc1 : decide (c < 0) = true := by simpa using hA2
        obtain ⟨q, hq⟩ : ∃ q, q = m + 1 := ⟨_, rfl⟩
        have eq1 : (m : Int) + 1 = (q : Int) := by omega
        have hqn : q < n := by omega
        have hjq : j < q := by have := HM.out; omega
        have hQ : q = kidF l' j := by unfold kidF; rw [if_pos (by rw [show 2 * j + 2 = m + 1 from by have := HM.out; omega, show 2 * j + 1 = m from HM.out.symm, ← HCC.out, HLN.out]; exact ⟨hA1, hA2⟩)]; have := HM.out; omega
        have HQ := Lib.hid hQ; have EQ1 := Lib.hid eq1
        clear hA2 hq hQ eq1
        have hg1 : (m : Int) + 1 < (n : Int) := by omega
        have hs0 : wr.drew.cell? ⟨g, 0, none⟩ = some (.slice (some ⟨b, 0, none⟩) n cap) ∧ wr.drew.cell? ⟨b, (m + 1) * 2, none⟩ = some (.int .i64 (gW l' (m + 1)).1) ∧ wr.drew.cell? ⟨b, (m + 1) * 2 + 1, none⟩ = some (.int .i64 (gW l' (m + 1)).2) ∧ wr.drew.cell? ⟨b, m * 2, none⟩ = some (.int .i64 (gW l' m).1) ∧ wr.drew.cell? ⟨b, m * 2 + 1, none⟩ = some (.int .i64 (gW l' m).2) ∧ wr.drew.cell? ⟨b, j * 2, none⟩ = some (.int .i64 (gW l' j).1) ∧ wr.drew.cell? ⟨b, j * 2 + 1, none⟩ = some (.int .i64 (gW l' j).2) := ⟨cg, HBK.out.c0 hm1l, HBK.out.c1 hm1l, HBK.out.c0 hml, HBK.out.c1 hml, HBK.out.c0 hjl, HBK.out.c1 hjl⟩
        have HS0 := Lib.hid hs0
        clear hs0
        go_region_held3 (fun W => W.cell? ⟨g, 0, none⟩ = some (.slice (some ⟨b, 0, none⟩) n cap) ∧ W.cell? ⟨b, (m + 1) * 2, none⟩ = some (.int .i64 (gW l' (m + 1)).1) ∧ W.cell? ⟨b, (m + 1) * 2 + 1, none⟩ = some (.int .i64 (gW l' (m + 1)).2) ∧ W.cell? ⟨b, m * 2, none⟩ = some (.int .i64 (gW l' m).1) ∧ W.cell? ⟨b, m * 2 + 1, none⟩ = some (.int .i64 (gW l' m).2) ∧ W.cell? ⟨b, j * 2, none⟩ = some (.int .i64 (gW l' j).1) ∧ W.cell? ⟨b, j * 2 + 1, none⟩ = some (.int .i64 (gW l' j).2)) (first | with_reducible exact HS0.out | with_reducible exact HS1.out | fail)
          (first
            | (go_at_call 26; refine HC.out.mono ?_; rintro e w1 ⟨rfl, hl⟩;
               have HL := Lib.hid ((Below.refl wr.heap.size wr).drew.trans hl);
               have HS1 : Hid (w1.cell? ⟨g, 0, none⟩ = some (.slice (some ⟨b, 0, none⟩) n cap) ∧ w1.cell? ⟨b, (m + 1) * 2, none⟩ = some (.int .i64 (gW l' (m + 1)).1) ∧ w1.cell? ⟨b, (m + 1) * 2 + 1, none⟩ = some (.int .i64 (gW l' (m + 1)).2) ∧ w1.cell? ⟨b, m * 2, none⟩ = some (.int .i64 (gW l' m).1) ∧ w1.cell? ⟨b, m * 2 + 1, none⟩ = some (.int .i64 (gW l' m).2) ∧ w1.cell? ⟨b, j * 2, none⟩ = some (.int .i64 (gW l' j).1) ∧ w1.cell? ⟨b, j * 2 + 1, none⟩ = some (.int .i64 (gW l' j).2)) := Lib.hid (by obtain ⟨q0, q1, q2, q3, q4, q5, q6⟩ := HS0.out; exact ⟨(hl.cell (p := ⟨g, _, none⟩) gl).trans q0, (hl.cell (p := ⟨b, _, none⟩) bl).trans q1, (hl.cell (p := ⟨b, _, none⟩) bl).trans q2, (hl.cell (p := ⟨b, _, none⟩) bl).trans q3, (hl.cell (p := ⟨b, _, none⟩) bl).trans q4, (hl.cell (p := ⟨b, _, none⟩) bl).trans q5, (hl.cell (p := ⟨b, _, none⟩) bl).trans q6⟩);
               clear hl))
        clear HS0 HS1 HC em1 em2 em3
        go_wp2_with fail
        rw [EQ1.out]
        have hbk1 : HBk w1 b l' r := Blk.below HBK.out HL.out bl
        have bl1 := Blk.lt hbk1
        have gl1 : g < w1.heap.size := Nat.lt_of_lt_of_le gl HL.out.size
        have cg1 := (HL.out.cell (p := ⟨g, 0, none⟩) gl).trans cg
        have hql : q < l'.length := by rw [HLN.out]; exact hqn
        have hq0 : (0 : Int) ≤ (q : Int) := by omega
        have hqn' : (q : Int) < (n : Int) := by omega
        have ht0 : w1.drew.cell? ⟨g, 0, none⟩ = some (.slice (some ⟨b, 0, none⟩) n cap) ∧ w1.drew.cell? ⟨b, j * 2, none⟩ = some (.int .i64 (gW l' j).1) ∧ w1.drew.cell? ⟨b, j * 2 + 1, none⟩ = some (.int .i64 (gW l' j).2) ∧ w1.drew.cell? ⟨b, q * 2, none⟩ = some (.int .i64 (gW l' q).1) ∧ w1.drew.cell? ⟨b, q * 2 + 1, none⟩ = some (.int .i64 (gW l' q).2) := ⟨cg1, hbk1.c0 hjl, hbk1.c1 hjl, hbk1.c0 hql, hbk1.c1 hql⟩
        have HT0 := Lib.hid ht0
        have HB1 := Lib.hid hbk1
        obtain ⟨d, hd⟩ : ∃ d, d = ordW (gW l' j) (gW l' q) := ⟨_, rfl⟩
        have HDD := Lib.hid hd
        have HD := Lib.hid (order_any (gW l' j) (gW l' q) w1.drew)
        rw [← hd] at HD
        clear hd ht0 hbk1 cg cg1
        by_cases hs : d ≤ 0
        all_goals
          go_wp2_with fail
          go_region_held3 (fun W => W.cell? ⟨g, 0, none⟩ = some (.slice (some ⟨b, 0, none⟩) n cap) ∧ W.cell? ⟨b, j * 2, none⟩ = some (.int .i64 (gW l' j).1) ∧ W.cell? ⟨b, j * 2 + 1, none⟩ = some (.int .i64 (gW l' j).2) ∧ W.cell? ⟨b, q * 2, none⟩ = some (.int .i64 (gW l' q).1) ∧ W.cell? ⟨b, q * 2 + 1, none⟩ = some (.int .i64 (gW l' q).2)) (first | with_reducible exact HT0.out | with_reducible exact HT1.out | fail)
            (first
              | (go_at_call 26; refine HD.out.mono ?_; rintro e w2 ⟨rfl, hl⟩;
                 have HL2 := Lib.hid ((Below.refl w1.heap.size w1).drew.trans hl);
                 have HT1 : Hid (w2.cell? ⟨g, 0, none⟩ = some (.slice (some ⟨b, 0, none⟩) n cap) ∧ w2.cell? ⟨b, j * 2, none⟩ = some (.int .i64 (gW l' j).1) ∧ w2.cell? ⟨b, j * 2 + 1, none⟩ = some (.int .i64 (gW l' j).2) ∧ w2.cell? ⟨b, q * 2, none⟩ = some (.int .i64 (gW l' q).1) ∧ w2.cell? ⟨b, q * 2 + 1, none⟩ = some (.int .i64 (gW l' q).2)) := Lib.hid (by obtain ⟨q0, q1, q2, q3, q4⟩ := HT0.out; exact ⟨(hl.cell (p := ⟨g, _, none⟩) gl1).trans q0, (hl.cell (p := ⟨b, _, none⟩) bl1).trans q1, (hl.cell (p := ⟨b, _, none⟩) bl1).trans q2, (hl.cell (p := ⟨b, _, none⟩) bl1).trans q3, (hl.cell (p := ⟨b, _, none⟩) bl1).trans q4⟩);
                 clear hl))
          clear HT0 HD
        · have HSS := Lib.hid hs
          clear HT1
          go_wp2
          refine bodyPost_ret (results_none rfl _ _ _) rfl ⟨rfl, HO.out.trans (Only.of_below (HL.out.trans (HL2.out.mono HL.out.size)) b), ?_⟩
          have e : downF l i = l' := by rw [← HU.out.1]; exact downF_stop (by rw [← HQ.out, ← HDD.out]; exact HSS.out)
          rw [e]
          exact Blk.below HB1.out HL2.out bl1
        · have hdd : 0 < d := by omega
          have HB2 := Lib.hid (Blk.below HB1.out HL2.out bl1)
          obtain ⟨q0, q1, q2, q3, q4⟩ := HT1.out
          have f1 := Blk.frozen HB2.out (j * 2); have f2 := Blk.frozen HB2.out (j * 2 + 1); have f3 := Blk.frozen HB2.out (q * 2); have f4 := Blk.frozen HB2.out (q * 2 + 1)
          clear HT1 hs
          go_wp2_with fail
          go_region
          have HX := Lib.hid (And.intro (HBk.swp (show HBk w2 b l' r from HB2.out) hjl hql) (only4 (HO.out.trans (Only.of_below (HL.out.trans (HL2.out.mono HL.out.size)) b)) (j * 2) (j * 2 + 1) (q * 2) (q * 2 + 1) (.int .i64 (gW l' q).1) (.int .i64 (gW l' q).2) (.int .i64 (gW l' j).1) (.int .i64 (gW l' j).2)))
          have HCN := Lib.hid hdd
          clear q0 q1 q2 q3 q4 f1 f2 f3 f4 hdd
          go_wp2
          go_roundw
          case rel => exact ⟨q, swp l' j q, hqn, ⟨by rw [← HU.out.1, downF_go (l := l') (i := j) (by rw [HLN.out, ← HM.out]; omega) (by rw [← HQ.out, ← HDD.out]; have := HCN.out; omega), ← HQ.out], by rw [swp_len]; exact HU.out.2⟩, by go_num, Blk.drew HX.out.1, HX.out.2.drew⟩
          case measure => simp [intOf]; omega
      · have hm1l : m + 1 < l'.length := by rw [HLN.out]; exact hB1
        have hc1 : decide (c < 0) = false := by simp; omega
        obtain ⟨q, hq⟩ : ∃ q, q = m := ⟨_, rfl⟩
        have eq1 : (m : Int) = (q : Int) := by omega
        have hqn : q < n := by omega
        have hjq : j < q := by have := HM.out; omega
        have hQ : q = kidF l' j := by unfold kidF; rw [if_neg (by rw [show 2 * j + 2 = m + 1 from by have := HM.out; omega, show 2 * j + 1 = m from HM.out.symm, ← HCC.out]; exact fun h => hB2 h.2)]; have := HM.out; omega
        have HQ := Lib.hid hQ; have EQ1 := Lib.hid eq1
        clear hB2 hq hQ eq1
        have hg1 : (m : Int) + 1 < (n : Int) := by omega
        have hs0 : wr.drew.cell? ⟨g, 0, none⟩ = some (.slice (some ⟨b, 0, none⟩) n cap) ∧ wr.drew.cell? ⟨b, (m + 1) * 2, none⟩ = some (.int .i64 (gW l' (m + 1)).1) ∧ wr.drew.cell? ⟨b, (m + 1) * 2 + 1, none⟩ = some (.int .i64 (gW l' (m + 1)).2) ∧ wr.drew.cell? ⟨b, m * 2, none⟩ = some (.int .i64 (gW l' m).1) ∧ wr.drew.cell? ⟨b, m * 2 + 1, none⟩ = some (.int .i64 (gW l' m).2) ∧ wr.drew.cell? ⟨b, j * 2, none⟩ = some (.int .i64 (gW l' j).1) ∧ wr.drew.cell? ⟨b, j * 2 + 1, none⟩ = some (.int .i64 (gW l' j).2) := ⟨cg, HBK.out.c0 hm1l, HBK.out.c1 hm1l, HBK.out.c0 hml, HBK.out.c1 hml, HBK.out.c0 hjl, HBK.out.c1 hjl⟩
        have HS0 := Lib.hid hs0
        clear hs0
        go_region_held3 (fun W => W.cell? ⟨g, 0, none⟩ = some (.slice (some ⟨b, 0, none⟩) n cap) ∧ W.cell? ⟨b, (m + 1) * 2, none⟩ = some (.int .i64 (gW l' (m + 1)).1) ∧ W.cell? ⟨b, (m + 1) * 2 + 1, none⟩ = some (.int .i64 (gW l' (m + 1)).2) ∧ W.cell? ⟨b, m * 2, none⟩ = some (.int .i64 (gW l' m).1) ∧ W.cell? ⟨b, m * 2 + 1, none⟩ = some (.int .i64 (gW l' m).2) ∧ W.cell? ⟨b, j * 2, none⟩ = some (.int .i64 (gW l' j).1) ∧ W.cell? ⟨b, j * 2 + 1, none⟩ = some (.int .i64 (gW l' j).2)) (first | with_reducible exact HS0.out | with_reducible exact HS1.out | fail)
          (first
            | (go_at_call 26; refine HC.out.mono ?_; rintro e w1 ⟨rfl, hl⟩;
               have HL := Lib.hid ((Below.refl wr.heap.size wr).drew.trans hl);
               have HS1 : Hid (w1.cell? ⟨g, 0, none⟩ = some (.slice (some ⟨b, 0, none⟩) n cap) ∧ w1.cell? ⟨b, (m + 1) * 2, none⟩ = some (.int .i64 (gW l' (m + 1)).1) ∧ w1.cell? ⟨b, (m + 1) * 2 + 1, none⟩ = some (.int .i64 (gW l' (m + 1)).2) ∧ w1.cell? ⟨b, m * 2, none⟩ = some (.int .i64 (gW l' m).1) ∧ w1.cell? ⟨b, m * 2 + 1, none⟩ = some (.int .i64 (gW l' m).2) ∧ w1.cell? ⟨b, j * 2, none⟩ = some (.int .i64 (gW l' j).1) ∧ w1.cell? ⟨b, j * 2 + 1, none⟩ = some (.int .i64 (gW l' j).2)) := Lib.hid (by obtain ⟨q0, q1, q2, q3, q4, q5, q6⟩ := HS0.out; exact ⟨(hl.cell (p := ⟨g, _, none⟩) gl).trans q0, (hl.cell (p := ⟨b, _, none⟩) bl).trans q1, (hl.cell (p := ⟨b, _, none⟩) bl).trans q2, (hl.cell (p := ⟨b, _, none⟩) bl).trans q3, (hl.cell (p := ⟨b, _, none⟩) bl).trans q4, (hl.cell (p := ⟨b, _, none⟩) bl).trans q5, (hl.cell (p := ⟨b, _, none⟩) bl).trans q6⟩);
               clear hl))
        clear HS0 HS1 HC em1 em2 em3
        go_wp2_with fail
        rw [EQ1.out]
        have hbk1 : HBk w1 b l' r := Blk.below HBK.out HL.out bl
        have bl1 := Blk.lt hbk1
        have gl1 : g < w1.heap.size := Nat.lt_of_lt_of_le gl HL.out.size
        have cg1 := (HL.out.cell (p := ⟨g, 0, none⟩) gl).trans cg
        have hql : q < l'.length := by rw [HLN.out]; exact hqn
        have hq0 : (0 : Int) ≤ (q : Int) := by omega
        have hqn' : (q : Int) < (n : Int) := by omega
        have ht0 : w1.drew.cell? ⟨g, 0, none⟩ = some (.slice (some ⟨b, 0, none⟩) n cap) ∧ w1.drew.cell? ⟨b, j * 2, none⟩ = some (.int .i64 (gW l' j).1) ∧ w1.drew.cell? ⟨b, j * 2 + 1, none⟩ = some (.int .i64 (gW l' j).2) ∧ w1.drew.cell? ⟨b, q * 2, none⟩ = some (.int .i64 (gW l' q).1) ∧ w1.drew.cell? ⟨b, q * 2 + 1, none⟩ = some (.int .i64 (gW l' q).2) := ⟨cg1, hbk1.c0 hjl, hbk1.c1 hjl, hbk1.c0 hql, hbk1.c1 hql⟩
        have HT0 := Lib.hid ht0
        have HB1 := Lib.hid hbk1
        obtain ⟨d, hd⟩ : ∃ d, d = ordW (gW l' j) (gW l' q) := ⟨_, rfl⟩
        have HDD := Lib.hid hd
        have HD := Lib.hid (order_any (gW l' j) (gW l' q) w1.drew)
        rw [← hd] at HD
        clear hd ht0 hbk1 cg cg1
        by_cases hs : d ≤ 0
        all_goals
          go_wp2_with fail
          go_region_held3 (fun W => W.cell? ⟨g, 0, none⟩ = some (.slice (some ⟨b, 0, none⟩) n cap) ∧ W.cell? ⟨b, j * 2, none⟩ = some (.int .i64 (gW l' j).1) ∧ W.cell? ⟨b, j * 2 + 1, none⟩ = some (.int .i64 (gW l' j).2) ∧ W.cell? ⟨b, q * 2, none⟩ = some (.int .i64 (gW l' q).1) ∧ W.cell? ⟨b, q * 2 + 1, none⟩ = some (.int .i64 (gW l' q).2)) (first | with_reducible exact HT0.out | with_reducible exact HT1.out | fail)
            (first
              | (go_at_call 26; refine HD.out.mono ?_; rintro e w2 ⟨rfl, hl⟩;
                 have HL2 := Lib.hid ((Below.refl w1.heap.size w1).drew.trans hl);
                 have HT1 : Hid (w2.cell? ⟨g, 0, none⟩ = some (.slice (some ⟨b, 0, none⟩) n cap) ∧ w2.cell? ⟨b, j * 2, none⟩ = some (.int .i64 (gW l' j).1) ∧ w2.cell? ⟨b, j * 2 + 1, none⟩ = some (.int .i64 (gW l' j).2) ∧ w2.cell? ⟨b, q * 2, none⟩ = some (.int .i64 (gW l' q).1) ∧ w2.cell? ⟨b, q * 2 + 1, none⟩ = some (.int .i64 (gW l' q).2)) := Lib.hid (by obtain ⟨q0, q1, q2, q3, q4⟩ := HT0.out; exact ⟨(hl.cell (p := ⟨g, _, none⟩) gl1).trans q0, (hl.cell (p := ⟨b, _, none⟩) bl1).trans q1, (hl.cell (p := ⟨b, _, none⟩) bl1).trans q2, (hl.cell (p := ⟨b, _, none⟩) bl1).trans q3, (hl.cell (p := ⟨b, _, none⟩) bl1).trans q4⟩);
                 clear hl))
          clear HT0 HD
        · have HSS := Lib.hid hs
          clear HT1
          go_wp2
          refine bodyPost_ret (results_none rfl _ _ _) rfl ⟨rfl, HO.out.trans (Only.of_below (HL.out.trans (HL2.out.mono HL.out.size)) b), ?_⟩
          have e : downF l i = l' := by rw [← HU.out.1]; exact downF_stop (by rw [← HQ.out, ← HDD.out]; exact HSS.out)
          rw [e]
          exact Blk.below HB1.out HL2.out bl1
        · have hdd : 0 < d := by omega
          have HB2 := Lib.hid (Blk.below HB1.out HL2.out bl1)
          obtain ⟨q0, q1, q2, q3, q4⟩ := HT1.out
          have f1 := Blk.frozen HB2.out (j * 2); have f2 := Blk.frozen HB2.out (j * 2 + 1); have f3 := Blk.frozen HB2.out (q * 2); have f4 := Blk.frozen HB2.out (q * 2 + 1)
          clear HT1 hs
          go_wp2_with fail
          go_region
          have HX := Lib.hid (And.intro (HBk.swp (show HBk w2 b l' r from HB2.out) hjl hql) (only4 (HO.out.trans (Only.of_below (HL.out.trans (HL2.out.mono HL.out.size)) b)) (j * 2) (j * 2 + 1) (q * 2) (q * 2 + 1) (.int .i64 (gW l' q).1) (.int .i64 (gW l' q).2) (.int .i64 (gW l' j).1) (.int .i64 (gW l' j).2)))
          have HCN := Lib.hid hdd
          clear q0 q1 q2 q3 q4 f1 f2 f3 f4 hdd
          go_wp2
          go_roundw
          case rel => exact ⟨q, swp l' j q, hqn, ⟨by rw [← HU.out.1, downF_go (l := l') (i := j) (by rw [HLN.out, ← HM.out]; omega) (by rw [← HQ.out, ← HDD.out]; have := HCN.out; omega), ← HQ.out], by rw [swp_len]; exact HU.out.2⟩, by go_num, Blk.drew HX.out.1, HX.out.2.drew⟩
          case measure => simp [intOf]; omega
      · have hc1 : decide ((m : Int) + 1 < (n : Int)) = false := by simp; omega
        have hc2 : (n : Int) ≤ (m : Int) + 1 := by omega
        obtain ⟨q, hq⟩ : ∃ q, q = m := ⟨_, rfl⟩
        have eq1 : (m : Int) = (q : Int) := by omega
        have hqn : q < n := by omega
        have hjq : j < q := by have := HM.out; omega
        have hQ : q = kidF l' j := by unfold kidF; rw [if_neg (by rw [show 2 * j + 2 = m + 1 from by have := HM.out; omega, HLN.out]; exact fun h => hC1 h.1)]; have := HM.out; omega
        have HQ := Lib.hid hQ; have EQ1 := Lib.hid eq1
        clear hq hQ eq1 hC1
        clear HC em1 em2 em3
        go_quiet (fail)
        generalize hw1 : wr.drewN _ = w1
        have HL : Hid (Below wr.heap.size wr w1) := Lib.hid (by rw [← hw1]; exact below_drewN (Below.refl _ _) _)
        clear hw1
        go_wp2_with fail
        rw [EQ1.out]
        have hbk1 : HBk w1 b l' r := Blk.below HBK.out HL.out bl
        have bl1 := Blk.lt hbk1
        have gl1 : g < w1.heap.size := Nat.lt_of_lt_of_le gl HL.out.size
        have cg1 := (HL.out.cell (p := ⟨g, 0, none⟩) gl).trans cg
        have hql : q < l'.length := by rw [HLN.out]; exact hqn
        have hq0 : (0 : Int) ≤ (q : Int) := by omega
        have hqn' : (q : Int) < (n : Int) := by omega
        have ht0 : w1.drew.cell? ⟨g, 0, none⟩ = some (.slice (some ⟨b, 0, none⟩) n cap) ∧ w1.drew.cell? ⟨b, j * 2, none⟩ = some (.int .i64 (gW l' j).1) ∧ w1.drew.cell? ⟨b, j * 2 + 1, none⟩ = some (.int .i64 (gW l' j).2) ∧ w1.drew.cell? ⟨b, q * 2, none⟩ = some (.int .i64 (gW l' q).1) ∧ w1.drew.cell? ⟨b, q * 2 + 1, none⟩ = some (.int .i64 (gW l' q).2) := ⟨cg1, hbk1.c0 hjl, hbk1.c1 hjl, hbk1.c0 hql, hbk1.c1 hql⟩
        have HT0 := Lib.hid ht0
        have HB1 := Lib.hid hbk1
        obtain ⟨d, hd⟩ : ∃ d, d = ordW (gW l' j) (gW l' q) := ⟨_, rfl⟩
        have HDD := Lib.hid hd
        have HD := Lib.hid (order_any (gW l' j) (gW l' q) w1.drew)
        rw [← hd] at HD
        clear hd ht0 hbk1 cg cg1
        by_cases hs : d ≤ 0
        all_goals
          go_wp2_with fail
          go_region_held3 (fun W => W.cell? ⟨g, 0, none⟩ = some (.slice (some ⟨b, 0, none⟩) n cap) ∧ W.cell? ⟨b, j * 2, none⟩ = some (.int .i64 (gW l' j).1) ∧ W.cell? ⟨b, j * 2 + 1, none⟩ = some (.int .i64 (gW l' j).2) ∧ W.cell? ⟨b, q * 2, none⟩ = some (.int .i64 (gW l' q).1) ∧ W.cell? ⟨b, q * 2 + 1, none⟩ = some (.int .i64 (gW l' q).2)) (first | with_reducible exact HT0.out | with_reducible exact HT1.out | fail)
            (first
              | (go_at_call 26; refine HD.out.mono ?_; rintro e w2 ⟨rfl, hl⟩;
                 have HL2 := Lib.hid ((Below.refl w1.heap.size w1).drew.trans hl);
                 have HT1 : Hid (w2.cell? ⟨g, 0, none⟩ = some (.slice (some ⟨b, 0, none⟩) n cap) ∧ w2.cell? ⟨b, j * 2, none⟩ = some (.int .i64 (gW l' j).1) ∧ w2.cell? ⟨b, j * 2 + 1, none⟩ = some (.int .i64 (gW l' j).2) ∧ w2.cell? ⟨b, q * 2, none⟩ = some (.int .i64 (gW l' q).1) ∧ w2.cell? ⟨b, q * 2 + 1, none⟩ = some (.int .i64 (gW l' q).2)) := Lib.hid (by obtain ⟨q0, q1, q2, q3, q4⟩ := HT0.out; exact ⟨(hl.cell (p := ⟨g, _, none⟩) gl1).trans q0, (hl.cell (p := ⟨b, _, none⟩) bl1).trans q1, (hl.cell (p := ⟨b, _, none⟩) bl1).trans q2, (hl.cell (p := ⟨b, _, none⟩) bl1).trans q3, (hl.cell (p := ⟨b, _, none⟩) bl1).trans q4⟩);
                 clear hl))
          clear HT0 HD
        · have HSS := Lib.hid hs
          clear HT1
          go_wp2
          refine bodyPost_ret (results_none rfl _ _ _) rfl ⟨rfl, HO.out.trans (Only.of_below (HL.out.trans (HL2.out.mono HL.out.size)) b), ?_⟩
          have e : downF l i = l' := by rw [← HU.out.1]; exact downF_stop (by rw [← HQ.out, ← HDD.out]; exact HSS.out)
          rw [e]
          exact Blk.below HB1.out HL2.out bl1
        · have hdd : 0 < d := by omega
          have HB2 := Lib.hid (Blk.below HB1.out HL2.out bl1)
          obtain ⟨q0, q1, q2, q3, q4⟩ := HT1.out
          have f1 := Blk.frozen HB2.out (j * 2); have f2 := Blk.frozen HB2.out (j * 2 + 1); have f3 := Blk.frozen HB2.out (q * 2); have f4 := Blk.frozen HB2.out (q * 2 + 1)
          clear HT1 hs
          go_wp2_with fail
          go_region
          have HX := Lib.hid (And.intro (HBk.swp (show HBk w2 b l' r from HB2.out) hjl hql) (only4 (HO.out.trans (Only.of_below (HL.out.trans (HL2.out.mono HL.out.size)) b)) (j * 2) (j * 2 + 1) (q * 2) (q * 2 + 1) (.int .i64 (gW l' q).1) (.int .i64 (gW l' q).2) (.int .i64 (gW l' j).1) (.int .i64 (gW l' j).2)))
          have HCN := Lib.hid hdd
          clear q0 q1 q2 q3 q4 f1 f2 f3 f4 hdd
          go_wp2
          go_roundw
          case rel => exact ⟨q, swp l' j q, hqn, ⟨by rw [← HU.out.1, downF_go (l := l') (i := j) (by rw [HLN.out, ← HM.out]; omega) (by rw [← HQ.out, ← HDD.out]; have := HCN.out; omega), ← HQ.out], by rw [swp_len]; exact HU.out.2⟩, by go_num, Blk.drew HX.out.1, HX.out.2.drew⟩
          case measure => simp [intOf]; omega
    · have hA' : (n : Int) ≤ 2 * (j : Int) + 1 := by omega
      go_wp2
      refine bodyPost_ret (results_none rfl _ _ _) rfl ⟨rfl, HO.out, ?_⟩
      have e : downF l i = l' := by rw [← HU.out.1]; exact downF_end (by rw [hln]; exact hA)
      rw [e]
      exact HBK.out
end Go.Proofs.Ytbngcepekaicjaa
