/- The order in which some were added changes nothing. No conditions. -/
import Derived.Test.YtbngcepekaicjaaTmOpenI
import Derived.StillTailTactics
namespace Go.Proofs.Ytbngcepekaicjaa.timerOrder
set_option linter.unusedVariables false
open Go.RowKit Go.ChangeShapes Go.WideShapes Go.Maps

theorem rem_idx (which : Int) (n : Nat) (h : 0 < n) (hn : n ≤ 150) : ∃ idx : Nat, wrap64 ((IntKind.u64.wrap which).tmod n) = (idx : Int) ∧ idx < n := by
  rw [IntKind.wrap_u64]
  have h0 : 0 ≤ which % 18446744073709551616 := Int.emod_nonneg _ (by omega)
  rw [Int.tmod_eq_emod_of_nonneg h0]
  have h1 := Int.emod_nonneg (which % 18446744073709551616) (show (n : Int) ≠ 0 by omega)
  have h2 := Int.emod_lt_of_pos (which % 18446744073709551616) (show (0 : Int) < n by omega)
  refine ⟨(which % 18446744073709551616 % n).toNat, ?_, by omega⟩
  rw [IntWalk.wrap64_in _ (by omega)]
  omega
theorem rot_idx (i k n : Nat) : ((i : Int) + (k : Int)).tmod (n : Int) = (((i + k) % n : Nat) : Int) := by
  rw [Int.tmod_eq_emod_of_nonneg (by omega)]
  simp
theorem wpList_updS (w : World) {ops : Array Oper} {rest : List Oper} {o : Oper} {a : Act} {Q : Exit → Act → World → Prop} (hg : o.guard = none) (m x v : Operand) (hop : o.op = Op.mapUpdate 27 m x v) (B n : Nat) (f : Int → Option Int) (s : Nat) (hm : a.eval m = .map (some B)) (h : MapO w B n f s) (hn : n < maxLen) (id c : Int) (hx : a.eval x = .int .i64 id) (hv : a.eval v = .int .i64 c) (hw : WfI id) (hc : WfI c)
    (hK : ∀ w' s', MapO w' B (n + 1) (putF f id c) s' → w.grownBy w' (some B) → wpList Try.prog ops Q rest (a.put o.dst undef) w') : wpList Try.prog ops Q (o :: rest) a w :=
  wpList_updO w hg m x v hop B n f s hm h hn id c hx hv hw hc fun w' => hK w' _
theorem own_lt {w : World} {base n size k : Nat} {e : TypeId} {v : Value} {xs : List Value} (h : w.ownsRow base e size v n xs) (hk : v.ownBlock = some k) : k < w.heap.size := by
  rcases h.2 with ⟨rfl, _⟩ | ⟨g, cap, cur, rfl, hb, hg, _⟩
  · simp [Value.ownBlock] at hk
  · simp [Value.ownBlock] at hk
    rw [← hk]
    exact Blk.lt hg
def OrdRel (w3 : World) (m : Nat) (L : List Wt) (sv iv : Value) (wr : World) : Prop := ∃ k s : Nat, k ≤ L.length ∧ iv = .int .i64 k ∧ MapO wr m k (seenF (L.take k)) s ∧ PairsAt wr (m + 1) sv (dedF (L.take k)) ∧ Below w3.heap.size w3 wr
def OrdRel2 (w : World) (ga gb B : Nat) (O : List Wt) (kk : Nat) (sv iv : Value) (wr : World) : Prop := ∃ i : Nat, i ≤ O.length ∧ iv = .int .i64 i ∧ Two w ga gb (foldA (O.take i)) (foldA (rotT O kk i)) wr ∧ PairsAt wr B sv O
set_option maxHeartbeats 1000000 in
set_option maxRecDepth 100000 in
theorem law_any (A : Option Addr) (L : List Wt) (cap : Nat) (turn : Int) (w : World) (hr : RdP w A L) (hbd : ∀ x, x ∈ L → WfI x.1 ∧ WfI x.2) (hLm : L.length ≤ 140737488351232) :
    Calls Try.prog 4 #[.slice A L.length cap, .int .i64 turn] w fun e w' => TrueBelow w e w' := by
  have hmm := @run_makeMap Try.prog
  obtain ⟨i0, hi, hz0, hz1, hz2⟩ := info_parts pair_facts
  have HI := Lib.hid hi; have HZ0 := Lib.hid hz0; have HZ1 := Lib.hid hz1; have HZ2 := Lib.hid hz2
  clear hi hz0 hz1 hz2
  obtain ⟨n, hn⟩ : ∃ n, n = L.length := ⟨_, rfl⟩
  rw [← hn] at hLm ⊢
  have HR := Lib.hid hr; have HBD := Lib.hid hbd; have HN := Lib.hid hn
  clear hr hbd hn
  go_enter Try.func4, Try.ntmps4
  go_wp2_with fail
  refine (awake19_any _).mono ?_
  rintro e w1 ⟨rfl, hl⟩
  have HL := Lib.hid hl
  clear hl
  by_cases h0 : n = 0
  · subst h0
    go_wp2_with fail
    refine (awake19_any _).mono ?_
    rintro e w2 ⟨rfl, hl⟩
    go_wp2
    go_ret
    exact ⟨rfl, HL.out.trans (hl.mono HL.out.size)⟩
  by_cases h1 : 150 < n
  · go_wp2_with fail
    refine (awake19_any _).mono ?_
    rintro e w2 ⟨rfl, hl⟩
    go_wp2
    go_ret
    exact ⟨rfl, HL.out.trans (hl.mono HL.out.size)⟩
  have hn0 : 0 < n := by omega
  have hn0' : (0 : Int) < (n : Int) := by omega
  go_wp2_with fail
  refine (new_any _).mono ?_
  rintro e w2 ⟨rfl, hW2, hl2⟩
  obtain ⟨ga, hga⟩ : ∃ ga, ga = w1.heap.size := ⟨_, rfl⟩
  have HA := Lib.hid (And.intro hW2 hl2)
  clear hW2 hl2
  go_wp2_with fail
  refine (new_any _).mono ?_
  rintro e w3 ⟨rfl, hW3, hl3⟩
  have HT := Lib.hid (two_new HL.out HA.out.1 HA.out.2 hW3 hl3)
  clear hW3 hl3 HA
  obtain ⟨gb, hgb⟩ : ∃ gb, gb = w2.heap.size := ⟨_, rfl⟩
  rw [← hga, ← hgb] at HT ⊢
  clear hga hgb
  go_wp2_with fail
  go_loopw [8, 32] (fun sv iv wr => OrdRel w3 w3.heap.size L sv iv wr) (fun _ iv _ => n - (intOf iv).toNat)
  case atStart => exact ⟨0, 0, Nat.zero_le _, rfl, MapO.made w3, World.ownsRow_nil _ _ _ _, (Below.refl _ _).alloc (Nat.le_refl _) _⟩
  case round =>
    obtain ⟨k, s, hk, rfl, hmap, hown, hbl⟩ := hrel
    obtain ⟨As, cs, rfl⟩ := hown.form
    obtain ⟨q, hq⟩ : ∃ q, q = (dedF (L.take k)).length := ⟨_, rfl⟩
    rw [← hq]
    rw [← HN.out] at hk
    have hqk : q ≤ k := by rw [hq]; exact (dedF_all L k (by rw [← HN.out]; exact hk)).2.1
    have HQ := Lib.hid hq; have HM := Lib.hid hmap; have HO := Lib.hid hown; have HB := Lib.hid hbl
    clear hq hmap hown hbl
    by_cases hk' : k < n
    · obtain ⟨b, o, rfl, hb, c0, c1⟩ := (HR.out.below (HT.out.all.trans (HB.out.mono HT.out.all.size))) k (by rw [← HN.out]; exact hk')
      have hkL : k < L.length := by rw [← HN.out]; exact hk'
      have hk0 : (0 : Int) ≤ (k : Int) := by omega
      have hk1 : (k : Int) < (n : Int) := by omega
      have HWF := Lib.hid (HBD.out _ (gW_mem hkL)).1
      have HTK := Lib.hid (take_next hkL)
      obtain ⟨x, hx⟩ : ∃ x, x = gW L k := ⟨_, rfl⟩
      rw [← hx] at c0 c1 HWF HTK
      clear hx
      have hlen : (L.take k).length = k := by rw [List.length_take]; omega
      have hc := seen_le (L.take k) x.1
      rw [hlen] at hc
      have HS0 := Lib.hid (seen_has (L.take k) x.1)
      have HNX := Lib.hid (seen_next (L.take k) x)
      have HDE := Lib.hid (dedF_snoc (L.take k) x)
      have HM1 := Lib.hid (HM.out.alloc (.cells #[.int .i64 x.1, .int .i64 x.2] 36))
      by_cases hh : hasW (L.take k) x.1 = true
      · obtain ⟨c, hcc⟩ : ∃ c, (seenF (L.take k) x.1).getD 0 = c := ⟨_, rfl⟩
        have hcn : c ≠ 0 := fun e => by
          have := HS0.out.1 (hcc.trans e)
          rw [hh] at this
          cases this
        rw [hcc] at hc HNX
        go_wp2_with (first
          | (at_lookup; refine wpList_lookO _ rfl _ _ rfl w3.heap.size k _ s rfl HM1.out x.1 rfl HWF.out ?_)
          | (at_mapUpdate; refine wpList_updS _ rfl _ _ _ rfl w3.heap.size k _ s rfl HM1.out (by unfold maxLen; omega) x.1 _ rfl rfl HWF.out (by unfold WfI; omega) ?_))
        intro w7 s7 hm7 hg7
        have hb7 := (HB.out.alloc HB.out.size (.cells #[.int .i64 x.1, .int .i64 x.2] 36)).grown hg7 (by simp; have := HB.out.size; omega) (fun j hj => by cases hj; exact Nat.le_refl _)
        have ho7 := (HO.out.below ((Below.refl _ _).alloc (Nat.le_refl _) (.cells #[.int .i64 x.1, .int .i64 x.2] 36))).map HM1.out hg7
        have HE := Lib.hid (show MapO w7 w3.heap.size (k + 1) (seenF (L.take (k + 1))) s7 ∧ PairsAt w7 (w3.heap.size + 1) (.slice As q cs) (dedF (L.take (k + 1))) ∧ Below w3.heap.size w3 w7 from ⟨hm7.congr fun j hj => by rw [HNX.out j, HTK.out], by rw [HTK.out, HDE.out, if_pos hh, HQ.out]; exact ho7, hb7⟩)
        clear hm7 hg7 hb7 ho7 c0 c1 hcc
        go_wp2
        go_roundw
        case rel => exact ⟨k + 1, s7, by rw [← HN.out]; exact hk', by go_num, HE.out⟩
        case measure => simp [intOf]; omega
      · have hz : (seenF (L.take k) x.1).getD 0 = 0 := HS0.out.2 (by simpa using hh)
        rw [hz] at hc HNX
        have hO1 : (wr.alloc (.cells #[.int .i64 x.1, .int .i64 x.2] 36)).ownsRow (w3.heap.size + 1) 36 2 (.slice As q cs) q (wc (dedF (L.take k))) := by
          have := HO.out
          unfold PairsAt at this
          rw [HQ.out]
          exact this.alloc _
        have HO1 := Lib.hid hO1
        clear hO1
        have hw3 : w3.heap.size < wr.heap.size := HM.out.lt
        go_wp2_with (first
          | (at_lookup; refine wpList_lookO _ rfl _ _ rfl w3.heap.size k _ s rfl HM1.out x.1 rfl HWF.out ?_)
          | (at_builtin; refine wpList_append_own _ rfl (.tmp 41) (.tmp 43) 33 rfl (w3.heap.size + 1) 36 i0 (.agg #[.int .i64 0, .int .i64 0]) 2 16 Try.underlying33 HI.out HZ0.out HZ1.out HZ2.out rfl (by decide) _ q _ rfl (HO1.out.alloc _) ⟨wr.heap.size + 1, 0, none⟩ 1 1 [.int .i64 x.1, .int .i64 x.2] rfl rfl (cells_new2 _ _ _ _) ?c1 ?c2 ?c3 ?c4 ?_))
        case c1 => intro u hu; simp at hu; rcases hu with rfl | rfl <;> rfl
        case c2 => unfold maxLen; omega
        case c3 => omega
        case c4 => simp; omega
        intro sv2 w6 hown2 hgrow hnil
        have hne : some wr.heap.size ≠ (Value.slice As q cs).ownBlock := fun e => by
          have h1 : wr.ownsRow (w3.heap.size + 1) 36 2 (.slice As q cs) (dedF (L.take k)).length (wc (dedF (L.take k))) := by
            have := HO.out
            unfold PairsAt at this
            rw [← HQ.out] at this
            rw [← HQ.out]
            exact this
          have := own_lt h1 e.symm
          omega
        have hx6 := (((Blk.new wr 36 #[.int .i64 x.1, .int .i64 x.2]).alloc (.cells #[.int .i64 x.1, .int .i64 x.2] 36)).grown hgrow hne)
        have hb6 := (((HB.out.alloc HB.out.size (.cells #[.int .i64 x.1, .int .i64 x.2] 36))).alloc (by simp; omega) (.cells #[.int .i64 x.1, .int .i64 x.2] 36)).grown hgrow (by simp; omega) (fun j hj => Nat.le_trans (Nat.le_succ _) (own_ge (HO1.out.alloc (.cells #[.int .i64 x.1, .int .i64 x.2] 36)) hj))
        have hm6 := (HM1.out.alloc (.cells #[.int .i64 x.1, .int .i64 x.2] 36)).grown (HO1.out.alloc _) hgrow
        have hp6 : PairsAt w6 (w3.heap.size + 1) sv2 (dedF (L.take (k + 1))) := by
          unfold PairsAt
          rw [HTK.out, HDE.out, if_neg hh, List.length_append, ← HQ.out, wc_app]
          exact hown2
        have d0 := hx6.cell 0
        have d1 := hx6.cell 1
        have hx6l := hx6.lt
        simp only [List.getElem?_toArray, List.getElem?_cons_zero, List.getElem?_cons_succ] at d0 d1
        have HM6 := Lib.hid hm6; have HB6 := Lib.hid hb6; have HP6 := Lib.hid hp6
        clear hx6 hb6 hm6 hp6 hown2 hgrow hnil hne c0 c1 HM1 HO1 HO
        go_wp2_with (first
          | (at_lookup; refine wpList_lookO _ rfl _ _ rfl w3.heap.size k _ s rfl HM6.out x.1 rfl HWF.out ?_)
          | (at_mapUpdate; refine wpList_updS _ rfl _ _ _ rfl w3.heap.size k _ s rfl HM6.out (by unfold maxLen; omega) x.1 _ rfl rfl HWF.out (by unfold WfI; omega) ?_))
        intro w7 s7 hm7 hg7
        have HE := Lib.hid (show MapO w7 w3.heap.size (k + 1) (seenF (L.take (k + 1))) s7 ∧ PairsAt w7 (w3.heap.size + 1) sv2 (dedF (L.take (k + 1))) ∧ Below w3.heap.size w3 w7 from
          ⟨hm7.congr fun j hj => by rw [HTK.out, ← HNX.out j]; rfl, HP6.out.map HM6.out hg7, HB6.out.grown hg7 HB6.out.size (fun j hj => by cases hj; exact Nat.le_refl _)⟩)
        clear hm7 hg7 d0 d1 hz
        go_wp2
        go_roundw
        case rel => exact ⟨k + 1, s7, by rw [← HN.out]; exact hk', by go_num, HE.out⟩
        case measure => simp [intOf]; omega
    · obtain rfl : k = n := by omega
      have e : L.take k = L := List.take_of_length_le (by rw [← HN.out]; exact Nat.le_refl _)
      have hall := dedF_all L k (by rw [← HN.out]; exact Nat.le_refl _)
      rw [e] at HQ HO hall
      have hq0 : 0 < q := by rw [HQ.out]; exact hall.2.2.2 hn0
      obtain ⟨O, hO⟩ : ∃ O, O = dedF L := ⟨_, rfl⟩
      have hqq := HQ.out
      rw [← hO] at HO hall hqq
      have HQ := Lib.hid hqq
      have HALL := Lib.hid hall
      have HT := Lib.hid (HT.out.below HB.out)
      clear hO hqq hall HM HB
      obtain ⟨idx, hidx, hlt⟩ := rem_idx turn q hq0 (by omega)
      go_wp2_with fail
      rw [hidx]
      clear hidx
      go_loopw [60] (fun iv wr' => OrdRel2 w ga gb (w3.heap.size + 1) O idx (.slice As q cs) iv wr') (fun iv _ => q - (intOf iv).toNat)
      case atStart =>
        refine ⟨0, Nat.zero_le _, rfl, HT.out, ?_⟩
        have := HO.out
        rwa [← HQ.out] at this
      case round =>
        obtain ⟨i, hi, rfl, htw, hown⟩ := hrel
        rw [← HQ.out] at hi
        have HT2 := Lib.hid htw; have HO2 := Lib.hid hown
        clear htw hown HT HO
        obtain ⟨A', c', he', hrd⟩ := HO2.out.rd
        have hA : As = A' := by injection he'
        subst hA
        clear he'
        by_cases hiq : i < q
        · have hiO : i < O.length := by rw [← HQ.out]; exact hiq
          obtain ⟨j, hj⟩ : ∃ j, j = (i + idx) % q := ⟨_, rfl⟩
          have hjq : j < q := by rw [hj]; exact Nat.mod_lt _ hq0
          have hjO : j < O.length := by rw [← HQ.out]; exact hjq
          obtain ⟨b, o, hA, hb, c0, c1⟩ := hrd i hiO
          obtain ⟨b', o', hA', hb', d0, d1⟩ := hrd j hjO
          have hAA := hA.symm.trans hA'
          injection hAA with hAA
          injection hAA with e1 e2
          subst e1 e2 hA
          have hi0 : (0 : Int) ≤ (i : Int) := by omega
          have hi1 : (i : Int) < (q : Int) := by omega
          have hj0 : (0 : Int) ≤ (j : Int) := by omega
          have hj1 : (j : Int) < (q : Int) := by omega
          have hrot : ((i : Int) + (idx : Int)).tmod (q : Int) = (j : Int) := by rw [hj]; exact rot_idx i idx q
          have HNi := Lib.hid (take_next hiO)
          have HNr := Lib.hid (rotT_next O idx i)
          rw [← HQ.out, ← hj] at HNr
          obtain ⟨x, hx⟩ : ∃ x, x = gW O i := ⟨_, rfl⟩
          obtain ⟨y, hy⟩ : ∃ y, y = gW O j := ⟨_, rfl⟩
          have hxb : x.1 ≤ 9223372036854775807 := by rw [hx]; exact (HBD.out _ (HALL.out.2.2.1 _ (gW_mem hiO))).1.2
          have hyb : y.1 ≤ 9223372036854775807 := by rw [hy]; exact (HBD.out _ (HALL.out.2.2.1 _ (gW_mem hjO))).1.2
          rw [← hx] at c0 c1 HNi
          rw [← hy] at d0 d1 HNr
          have HY := Lib.hid hy
          clear hx hy hj hA'
          have HXB := Lib.hid hxb; have HYB := Lib.hid hyb
          clear hxb hyb hrd
          have HD := Lib.hid (And.intro d0 d1)
          clear d0 d1
          have hq140 : (q : Int) ≤ 150 := by omega
          have hidx1 : (idx : Int) < (q : Int) := by omega
          have hidx0 : (0 : Int) ≤ (idx : Int) := by omega
          go_wp2
          go_still_tail 11, (by kernel_rfl)
          change wpList _ _ _ _ _ wr.drew
          go_wp2_with fail
          refine (two_add w ga gb _ _ x.1 x.2 _ (HT2.out.below (Below.refl _ _).drew) HXB.out).mono ?_
          rintro e w4 ⟨rfl, ht, hk4⟩
          have ho4 : PairsAt w4 (w3.heap.size + 1) (.slice (some ⟨b, o, none⟩) q cs) O := hk4.pairs (HO2.out.below (Below.refl _ _).drew)
          obtain ⟨A2, c2, he2, hrd2⟩ := ho4.rd
          have hA2 : some ⟨b, o, none⟩ = A2 := by injection he2
          subst hA2
          clear he2
          obtain ⟨b2, o2, hb2, hbl2, d0, d1⟩ := hrd2 j hjO
          injection hb2 with hb2
          injection hb2 with e1 e2
          subst e1 e2
          have HT4 := Lib.hid ht; have HO4 := Lib.hid ho4
          clear ht ho4 hk4 hrd2 HT2 HO2 c0 c1 HD hb hb'
          rw [← HY.out] at d0 d1
          go_wp2
          go_still_tail 11, (by kernel_rfl)
          change wpList _ _ _ _ _ w4.drew
          go_wp2_with fail
          refine (two_add w gb ga _ _ y.1 y.2 _ (HT4.out.swap.below (Below.refl _ _).drew) HYB.out).mono ?_
          rintro e w5 ⟨rfl, ht, hk5⟩
          have HE := Lib.hid (show Two w ga gb (foldA (O.take (i + 1))) (foldA (rotT O idx (i + 1))) w5 ∧ PairsAt w5 (w3.heap.size + 1) (.slice (some ⟨b, o, none⟩) q cs) O from
            ⟨by rw [HNi.out, HNr.out, foldA_snoc, foldA_snoc]; exact ht.swap, hk5.pairs (HO4.out.below (Below.refl _ _).drew)⟩)
          clear ht hk5 HT4 HO4 d0 d1 hrot
          go_wp2
          exact ⟨⟨i + 1, by rw [← HQ.out]; exact hiq, by go_num, HE.out⟩, by simp [intOf]; omega⟩
        · obtain rfl : i = q := by omega
          have hperm := foldA_same HALL.out.1 (Nat.le_trans HALL.out.2.1 (by omega)) (rotT_perm O idx (by rw [← HQ.out]; exact hlt)) (fun x hx => (HBD.out _ (HALL.out.2.2.1 _ hx)).1.2)
          have htw := HT2.out
          have hMl := foldA_len O O.length (Nat.le_refl _)
          rw [List.take_length] at hMl
          rw [List.take_of_length_le (by rw [← HQ.out]; exact Nat.le_refl _)] at htw
          rw [← HQ.out] at hperm hMl
          rw [hperm] at htw
          obtain ⟨M, hM⟩ : ∃ M, M = foldA O := ⟨_, rfl⟩
          rw [← hM] at htw hMl
          have HT4 := Lib.hid htw
          clear htw hperm hM HT2 HO2 hrd
          have hMl2 : M.length ≤ 150 := by omega
          go_wp2_with fail
          refine (two_waits w ga gb _ _ _ HT4.out).mono ?_
          rintro e w8 ⟨sa, rfl, hia, ht, hb8⟩
          have HT8 := Lib.hid ht; have HIA := Lib.hid hia
          clear HT4 ht hia hb8
          go_wp2_with fail
          refine (two_waits w gb ga _ _ _ HT8.out.swap).mono ?_
          rintro e w9 ⟨sb, rfl, hib, ht, hb9⟩
          have HIA9 := Lib.hid (HIA.out.below hb9)
          have HT9 := Lib.hid ht.swap; have HIB := Lib.hid hib
          clear HT8 ht hib hb9 HIA
          obtain ⟨Ac, cc, rfl, hrc⟩ := HIA9.out.rd
          obtain ⟨Ad, cd, rfl, hrd⟩ := HIB.out.rd
          have HSP := Lib.hid (same_pairs Ac Ad M M cc cd w9 hrc hrd (by omega))
          clear hrc hrd HIA9 HIB
          go_wp2_with fail
          refine HSP.out.mono ?_
          rintro e w10 ⟨rfl, hd⟩
          have HT10 := Lib.hid (HT9.out.below (drew_below hd))
          clear HSP hd HT9
          rw [show decide (M = M) = true from decide_eq_true rfl]
          go_wp2_with fail
          refine (two_due w ga gb _ _ 2199023255552 _ HT10.out).mono ?_
          rintro e w5 ⟨sa, rfl, hia, ht, hk5⟩
          have HT5 := Lib.hid ht; have HIA := Lib.hid hia
          clear HT10 ht hk5 hia
          go_wp2_with fail
          refine (two_due w gb ga _ _ 2199023255552 _ HT5.out.swap).mono ?_
          rintro e w6 ⟨sb, rfl, hib, ht, hk6⟩
          have HIA6 := Lib.hid (hk6.ints HIA.out)
          have HT6 := Lib.hid ht.swap; have HIB := Lib.hid hib
          clear HT5 ht hk6 hib HIA
          obtain ⟨Aa, ca, rfl, hra⟩ := HIA6.out.rd
          obtain ⟨Ab, cb, rfl, hrb⟩ := HIB.out.rd
          have hdl : (dueO M 2199023255552).length ≤ 150 := by
            unfold dueO
            rw [List.length_map]
            exact Nat.le_trans (List.takeWhile_sublist _).length_le hMl2
          have HSA := Lib.hid (same_any Aa Ab (dueO M 2199023255552) (dueO M 2199023255552) ca cb w6 hra hrb (by omega))
          clear hra hrb HIA6 HIB
          go_wp2_with fail
          refine HSA.out.mono ?_
          rintro e w7 ⟨rfl, hd⟩
          have HT7 := Lib.hid (HT6.out.below (drew_below hd))
          clear HSA hd HT6
          rw [show decide (dueO M 2199023255552 = dueO M 2199023255552) = true from decide_eq_true rfl]
          go_wp2
          go_ret
          exact ⟨rfl, HT7.out.all⟩
theorem walk {H : Type} {enc : TypeId × Value → H} {W : World} {base : Nat} {args : Array Value} {ds : List (DataW H)} {ps : List MemPlace}
    (h : Handed enc Try.prog W base Try.f4.params.toList args ds ps) : Calls Try.prog 4 args W fun e w' => TrueBelow W e w' := by
  rw [Try.params4] at h
  have hval := h.val
  have hsz := h.fits
  obtain ⟨v0, vs0, d0, ds0, p0, q0, hargs, rfl, rfl, h0, r0⟩ := trodAll_cons h.trod
  obtain ⟨v1, vs1, d1, ds1, p1, q1, rfl, rfl, rfl, h1, r1⟩ := trodAll_cons r0
  obtain ⟨rfl, rfl, rfl⟩ := trodAll_nil r1
  obtain rfl : args = #[v0, v1] := by cases args; simp_all
  obtain ⟨A, L, cap, rfl, hr, hl, hb⟩ := open_pairsI (hval 0 33 v0 rfl rfl) h0 0 hsz rfl rfl
  obtain ⟨a1, rfl, rfl, rfl, w1⟩ := open_int Try.underlying3 (hval 1 3 v1 rfl rfl) h1
  exact law_any A L cap a1 W hr hb hl


set_option maxRecDepth 100000 in
theorem lifted (os : Os) (started : os.Started) (H : Type) (enc : TypeId × Value → H) :
    ReturnsInHanded {} Try.checked os 4 .any (Rows.timerOrderSpec.pre6 enc Try.prog Try.f4 Rows.timerOrderRow.domain false) (Rows.timerOrderSpec.post enc Try.prog Try.f4 false true false false) := by
  refine returnsInHanded_of_change_sized (C := Try.checked) own started (by kernel_rfl) Try.func4
    (ChangeSpec.witness6 (enc := enc) (C := Try.checked) false ⟨#[], #[.slice none 0 0, .int .i64 0], []⟩ 8 (by kernel_rfl) (by kernel_rfl) (by kernel_rfl) (by kernel_rfl)) ?_
  intro W base args ds gs before hval hW _ hsz _
  refine (walk (handed_of hval hW rfl rfl hsz)).mono fun e W' ⟨he, hb⟩ => ?_
  subst he
  exact ⟨_, rfl, law_post hW rfl laidOut (by kernel_rfl) rfl Try.underlying4 (fun ds' h => by match ds', h with | [_, _], _ => rfl) hb⟩

theorem over : Rows.timerOrderRow.holds Try.pinned (OpenSpec.ofChange Rows.timerOrderSpec) :=
  OpenClaim.holds_of_wide 4 Try.f4 rfl rfl rfl rfl rfl rfl rfl ⟨rfl, rfl, rfl, rfl, rfl⟩ rfl rfl rfl rfl rfl (by kernel_rfl) Try.func4 (by kernel_rfl)
    (of_decide_eq_true (by kernel_rfl)) (by unfold Func.isWrapper; first | (rw [if_pos (by decide +kernel)]; kernel_rfl) | (rw [if_neg (by decide +kernel)]; exact ⟨rfl, rfl⟩))
    (fun os started H enc _ => lifted os started H enc)

theorem proved : Rows.TimerOrderSaid :=
  over
#print axioms proved
end Go.Proofs.Ytbngcepekaicjaa.timerOrder
