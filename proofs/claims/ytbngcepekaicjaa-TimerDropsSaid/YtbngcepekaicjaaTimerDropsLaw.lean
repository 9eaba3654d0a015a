/- Who was dropped never comes due; all others come as if it hadn't been. No conditions. -/
import Derived.Test.YtbngcepekaicjaaTmTwo
namespace Go.Proofs.Ytbngcepekaicjaa.timerDrops
set_option linter.unusedVariables false
open Go.RowKit Go.ChangeShapes Go.WideShapes

theorem below_nil (w : World) : Below w.heap.size w w := .refl _ _
def DropRel (w0 : World) (ga gb : Nat) (L : List Wt) (gone : Int) (iv : Value) (wr : World) : Prop := ∃ k : Nat, k ≤ L.length ∧ iv = .int .i64 k ∧ Two w0 ga gb (foldA (L.take k)) (dropL (foldA (L.take k)) gone) wr
theorem rem_idx (which : Int) (n : Nat) (h : 0 < n) (hn : n ≤ 150) : ∃ idx : Nat, wrap64 ((IntKind.u64.wrap which).tmod n) = (idx : Int) ∧ idx < n := by
  rw [IntKind.wrap_u64]
  have h0 : 0 ≤ which % 18446744073709551616 := Int.emod_nonneg _ (by omega)
  rw [Int.tmod_eq_emod_of_nonneg h0]
  have h1 := Int.emod_nonneg (which % 18446744073709551616) (show (n : Int) ≠ 0 by omega)
  have h2 := Int.emod_lt_of_pos (which % 18446744073709551616) (show (0 : Int) < n by omega)
  refine ⟨(which % 18446744073709551616 % n).toNat, ?_, by omega⟩
  rw [IntWalk.wrap64_in _ (by omega)]
  omega
set_option maxHeartbeats 1000000 in
set_option maxRecDepth 100000 in
theorem law_any (A : Option Addr) (L : List Wt) (cap : Nat) (which now : Int) (w : World) (hr : RdP w A L) (hbd : ∀ x, x ∈ L → x.1 ≤ 9223372036854775807) (hLm : L.length ≤ 140737488351232) :
    Calls Try.prog 5 #[.slice A L.length cap, .int .i64 which, .int .i64 now] w fun e w' => TrueBelow w e w' := by
  obtain ⟨n, hn⟩ : ∃ n, n = L.length := ⟨_, rfl⟩
  rw [← hn] at hLm ⊢
  have HR := Lib.hid hr; have HBD := Lib.hid hbd; have HN := Lib.hid hn
  clear hr hbd hn
  go_enter Try.func5, Try.ntmps5
  go_wp2_with fail
  refine (awake19_any _).mono ?_
  rintro e w1 ⟨rfl, hl⟩
  have HL := Lib.hid hl
  clear hl
  by_cases h0 : n = 0
  · subst h0
    go_wp2_with fail
    refine (awake19_any _).mono ?_
    rintro e w2 ⟨rfl, hl⟩
    go_wp2
    go_ret
    exact ⟨rfl, HL.out.trans (hl.mono HL.out.size)⟩
  by_cases h1 : 150 < n
  · go_wp2_with fail
    refine (awake19_any _).mono ?_
    rintro e w2 ⟨rfl, hl⟩
    go_wp2
    go_ret
    exact ⟨rfl, HL.out.trans (hl.mono HL.out.size)⟩
  have hn0 : 0 < n := by omega
  have hn0' : (0 : Int) < (n : Int) := by omega
  go_wp2_with fail
  refine (new_any _).mono ?_
  rintro e w2 ⟨rfl, hW2, hl2⟩
  obtain ⟨ga, hga⟩ : ∃ ga, ga = w1.heap.size := ⟨_, rfl⟩
  have HA := Lib.hid (And.intro hW2 hl2)
  clear hW2 hl2
  go_wp2_with fail
  refine (new_any _).mono ?_
  rintro e w3 ⟨rfl, hW3, hl3⟩
  have HT := Lib.hid (two_new HL.out HA.out.1 HA.out.2 hW3 hl3)
  clear hW3 hl3 HA
  obtain ⟨idx, hidx, hlt⟩ := rem_idx which n hn0 (by omega)
  obtain ⟨b, o, rfl, hb, c0, c1⟩ := (HR.out.below HT.out.all) idx (by rw [← HN.out]; exact hlt)
  have hx0 : (0 : Int) ≤ (idx : Int) := by omega
  have hx1 : (idx : Int) < (n : Int) := by omega
  obtain ⟨gone, hgone⟩ : ∃ gone, gone = (gW L idx).1 := ⟨_, rfl⟩
  rw [← hgone] at c0
  obtain ⟨gb, hgb⟩ : ∃ gb, gb = w2.heap.size := ⟨_, rfl⟩
  rw [← hga, ← hgb] at HT ⊢
  clear hga hgb hgone
  go_wp2_with fail
  clear c0 c1 hidx hb hx0 hx1
  go_loopw [40] (fun iv wr => DropRel w ga gb L gone iv wr) (fun iv _ => n - (intOf iv).toNat)
  case atStart => exact ⟨0, Nat.zero_le _, rfl, HT.out⟩
  case round =>
    obtain ⟨k, hk, rfl, htw⟩ := hrel
    rw [← HN.out] at hk
    have HT := Lib.hid htw
    clear htw
    by_cases hk' : k < n
    · obtain ⟨b', o', he, hb, c0, c1⟩ := (HR.out.below HT.out.all) k (by rw [← HN.out]; exact hk')
      injection he with he
      injection he with he1 he2
      subst he1 he2
      have hkL : k < L.length := by rw [← HN.out]; exact hk'
      have hk0 : (0 : Int) ≤ (k : Int) := by omega
      have hk1 : (k : Int) < (n : Int) := by omega
      have HM := Lib.hid (HBD.out _ (gW_mem hkL))
      have HAD := Lib.hid (add_drop (foldA_ok L HBD.out k (Nat.le_of_lt hkL)) (Nat.lt_of_le_of_lt (foldA_len L k (Nat.le_of_lt hkL)) (by omega)) (gW L k) HM.out gone)
      have HTK := Lib.hid (take_next hkL)
      obtain ⟨x, hx⟩ : ∃ x, x = gW L k := ⟨_, rfl⟩
      rw [← hx] at c0 c1 HM HAD HTK
      clear hx
      have hxr : wr.heap.size < (wr.alloc (.cells #[.int .i64 x.1, .int .i64 x.2] 36)).heap.size := by simp
      have HB := Lib.hid (Blk.new wr 36 #[.int .i64 x.1, .int .i64 x.2])
      have HT1 := Lib.hid (HT.out.below ((Below.refl _ _).alloc (Nat.le_refl _) (.cells #[.int .i64 x.1, .int .i64 x.2] 36)))
      go_wp2_with fail
      refine (two_add w ga gb _ _ x.1 x.2 _ HT1.out HM.out).mono ?_
      rintro e w4 ⟨rfl, ht, hk4⟩
      have hB4 := hk4.blk HB.out (by decide) (by decide)
      have c0 := hB4.cell 0
      have c1 := hB4.cell 1
      have hl4 := hB4.lt
      simp only [List.getElem?_toArray, List.getElem?_cons_zero, List.getElem?_cons_succ] at c0 c1
      have HT4 := Lib.hid ht
      clear ht hk4 hB4 HT1 HT HB hxr
      by_cases hg : x.1 = gone
      · subst hg
        go_wp2_with fail
        go_wp2
        refine ⟨⟨k + 1, by rw [← HN.out]; exact hk', by go_num, ?_⟩, by simp [intOf]; omega⟩
        rw [HTK.out, foldA_snoc, HAD.out, if_pos trivial]
        exact HT4.out
      · have hgn : (x.1 != gone) = true := by simpa using hg
        go_wp2_with fail
        refine (two_add w gb ga _ _ x.1 x.2 _ HT4.out.swap HM.out).mono ?_
        rintro e w5 ⟨rfl, ht, hk5⟩
        have HT5 := Lib.hid ht
        clear ht hk5 HT4 c0 c1 hl4
        go_wp2
        refine ⟨⟨k + 1, by rw [← HN.out]; exact hk', by go_num, ?_⟩, by simp [intOf]; omega⟩
        rw [HTK.out, foldA_snoc, HAD.out, if_neg hg]
        exact HT5.out.swap
    · obtain rfl : k = n := by omega
      have e : L.take k = L := List.take_of_length_le (by rw [← HN.out]; exact Nat.le_refl _)
      rw [e] at HT
      have hMl : (foldA L).length ≤ 150 := by
        have := foldA_len L L.length (Nat.le_refl _)
        rw [List.take_length, ← HN.out] at this
        omega
      go_wp2_with fail
      refine (two_drop w ga gb _ _ gone _ HT.out).mono ?_
      rintro e w4 ⟨rfl, ht, hk4⟩
      obtain ⟨M, hM⟩ : ∃ M, M = dropL (foldA L) gone := ⟨_, rfl⟩
      have hMl2 : M.length ≤ 150 := by rw [hM]; exact Nat.le_trans (List.length_filter_le _ _) hMl
      rw [← hM] at ht
      have HT4 := Lib.hid ht
      clear hM HT ht hk4 hMl
      go_wp2_with fail
      refine (two_due w ga gb _ _ now _ HT4.out).mono ?_
      rintro e w5 ⟨sa, rfl, hia, ht, hk5⟩
      have HT5 := Lib.hid ht; have HIA := Lib.hid hia
      clear HT4 ht hk5 hia
      go_wp2_with fail
      refine (two_due w gb ga _ _ now _ HT5.out.swap).mono ?_
      rintro e w6 ⟨sb, rfl, hib, ht, hk6⟩
      have HIA6 := Lib.hid (hk6.ints HIA.out)
      have HT6 := Lib.hid ht.swap; have HIB := Lib.hid hib
      clear HT5 ht hk6 hib HIA
      obtain ⟨Aa, ca, rfl, hra⟩ := HIA6.out.rd
      obtain ⟨Ab, cb, rfl, hrb⟩ := HIB.out.rd
      have hdl : (dueO M now).length ≤ 150 := by
        unfold dueO
        rw [List.length_map]
        exact Nat.le_trans (List.takeWhile_sublist _).length_le hMl2
      have HSA := Lib.hid (same_any Aa Ab (dueO M now) (dueO M now) ca cb w6 hra hrb (by omega))
      clear hra hrb HIA6 HIB
      go_wp2_with fail
      refine HSA.out.mono ?_
      rintro e w7 ⟨rfl, hd⟩
      have HT7 := Lib.hid (HT6.out.below (drew_below hd))
      clear HSA hd HT6
      rw [show decide (dueO M now = dueO M now) = true from decide_eq_true rfl]
      go_wp2_with fail
      refine (two_waits w ga gb _ _ _ HT7.out).mono ?_
      rintro e w8 ⟨sa, rfl, hia, ht, hb8⟩
      have HT8 := Lib.hid ht; have HIA := Lib.hid hia
      clear HT7 ht hia hb8
      go_wp2_with fail
      refine (two_waits w gb ga _ _ _ HT8.out.swap).mono ?_
      rintro e w9 ⟨sb, rfl, hib, ht, hb9⟩
      have HIA9 := Lib.hid (HIA.out.below hb9)
      have HT9 := Lib.hid ht.swap; have HIB := Lib.hid hib
      clear HT8 ht hib hb9 HIA
      obtain ⟨Ac, cc, rfl, hrc⟩ := HIA9.out.rd
      obtain ⟨Ad, cd, rfl, hrd⟩ := HIB.out.rd
      have hql : (dueL M now).length ≤ 150 := Nat.le_trans (List.dropWhile_sublist _).length_le hMl2
      have HSP := Lib.hid (same_pairs Ac Ad (dueL M now) (dueL M now) cc cd w9 hrc hrd (by omega))
      clear hrc hrd HIA9 HIB
      go_wp2_with fail
      refine HSP.out.mono ?_
      rintro e w10 ⟨rfl, hd⟩
      have HT10 := Lib.hid (HT9.out.below (drew_below hd))
      clear HSP hd HT9
      rw [show decide (dueL M now = dueL M now) = true from decide_eq_true rfl]
      go_wp2
      go_ret
      exact ⟨rfl, HT10.out.all⟩
theorem walk {H : Type} {enc : TypeId × Value → H} {W : World} {base : Nat} {args : Array Value} {ds : List (DataW H)} {ps : List MemPlace}
    (h : Handed enc Try.prog W base Try.f5.params.toList args ds ps) : Calls Try.prog 5 args W fun e w' => TrueBelow W e w' := by
  rw [Try.params5] at h
  have hval := h.val
  have hsz := h.fits
  obtain ⟨v0, vs0, d0, ds0, p0, q0, hargs, rfl, rfl, h0, r0⟩ := trodAll_cons h.trod
  obtain ⟨v1, vs1, d1, ds1, p1, q1, rfl, rfl, rfl, h1, r1⟩ := trodAll_cons r0
  obtain ⟨v2, vs2, d2, ds2, p2, q2, rfl, rfl, rfl, h2, r2⟩ := trodAll_cons r1
  obtain ⟨rfl, rfl, rfl⟩ := trodAll_nil r2
  obtain rfl : args = #[v0, v1, v2] := by cases args; simp_all
  obtain ⟨A, L, cap, rfl, hr, hl, hb⟩ := open_pairs (hval 0 33 v0 rfl rfl) h0 0 hsz rfl rfl
  obtain ⟨a1, rfl, rfl, rfl, w1⟩ := open_int Try.underlying3 (hval 1 3 v1 rfl rfl) h1
  obtain ⟨a2, rfl, rfl, rfl, w2⟩ := open_int Try.underlying3 (hval 2 3 v2 rfl rfl) h2
  exact law_any A L cap a1 a2 W hr (fun x hx => (hb x hx).1) hl


set_option maxRecDepth 100000 in
theorem lifted (os : Os) (started : os.Started) (H : Type) (enc : TypeId × Value → H) :
    ReturnsInHanded {} Try.checked os 5 .any (Rows.timerDropsSpec.pre6 enc Try.prog Try.f5 Rows.timerDropsRow.domain false) (Rows.timerDropsSpec.post enc Try.prog Try.f5 false true false false) := by
  refine returnsInHanded_of_change_sized (C := Try.checked) own started (by kernel_rfl) Try.func5
    (ChangeSpec.witness6 (enc := enc) (C := Try.checked) false ⟨#[], #[.slice none 0 0, .int .i64 0, .int .i64 0], []⟩ 8 (by kernel_rfl) (by kernel_rfl) (by kernel_rfl) (by kernel_rfl)) ?_
  intro W base args ds gs before hval hW _ hsz _
  refine (walk (handed_of hval hW rfl rfl hsz)).mono fun e W' ⟨he, hb⟩ => ?_
  subst he
  exact ⟨_, rfl, law_post hW rfl laidOut (by kernel_rfl) rfl Try.underlying4 (fun ds' h => by match ds', h with | [_, _, _], _ => rfl) hb⟩

theorem over : Rows.timerDropsRow.holds Try.pinned (OpenSpec.ofChange Rows.timerDropsSpec) :=
  OpenClaim.holds_of_wide 5 Try.f5 rfl rfl rfl rfl rfl rfl rfl ⟨rfl, rfl, rfl, rfl, rfl⟩ rfl rfl rfl rfl rfl (by kernel_rfl) Try.func5 (by kernel_rfl)
    (of_decide_eq_true (by kernel_rfl)) (by unfold Func.isWrapper; first | (rw [if_pos (by decide +kernel)]; kernel_rfl) | (rw [if_neg (by decide +kernel)]; exact ⟨rfl, rfl⟩))
    (fun os started H enc _ => lifted os started H enc)

theorem proved : Rows.TimerDropsSaid :=
  over
#print axioms proved
end Go.Proofs.Ytbngcepekaicjaa.timerDrops
