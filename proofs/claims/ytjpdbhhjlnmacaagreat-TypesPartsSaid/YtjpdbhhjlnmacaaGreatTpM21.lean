/- types.Same of any two types, with slices.Equal and slices.EqualFunc: whether they are one but for their places. -/
import Derived.Test.YtjpdbhhjlnmacaaGreatTpM13
import Derived.Test.YtjpdbhhjlnmacaaGreatTpM20
import Derived.Deep.QuietTactic
namespace Go.Proofs.YtjpdbhhjlnmacaaGreat
set_option linter.unusedVariables false
open Go.RowKit

theorem str_ne {s t : ByteArray} (hst : s ≠ t) : (s.toList == t.toList) = false := by
  have : s.toList ≠ t.toList := fun e => hst (by
    apply WideShapes.bytes_inj
    rw [← Lib.toList_data, ← Lib.toList_data]; exact e)
  simpa using this
theorem str_ne' {s t : ByteArray} (hst : s ≠ t) : (s.toList != t.toList) = true := by unfold bne; rw [str_ne hst]; rfl

set_option maxHeartbeats 2000000 in
set_option maxRecDepth 100000 in
theorem eqs_any (a b : Value) (ns ms : List ByteArray) (w : World) (ha : NamesAt w a ns) (hb : NamesAt w b ms) (hn : ns.length ≤ 8796093021952) :
    Calls Tryz.prog 35 #[a, b] w fun e w' => BoolDrew (decide (ns = ms)) w e w' := by
  obtain ⟨p, c, rfl, hp⟩ := names_in ha
  obtain ⟨q, c2, rfl, hq⟩ := names_in hb
  obtain ⟨L, hL⟩ : ∃ L, L = ns.length := ⟨_, rfl⟩
  obtain ⟨M, hM⟩ : ∃ M, M = ms.length := ⟨_, rfl⟩
  obtain ⟨R, hR⟩ : ∃ R, R = decide (ns = ms) := ⟨_, rfl⟩
  rw [← hL] at hn
  rw [← hL, ← hM, ← hR]
  have HL := Lib.hid hL; have HM := Lib.hid hM; have HP := Lib.hid hp; have HQ := Lib.hid hq; have HR := Lib.hid hR
  clear hL hM hp hq ha hb hR
  by_cases hl : L = M
  case neg =>
    have HF : Hid (R = false) := Lib.hid (by rw [HR.out]; exact decide_eq_false (fun h => hl (by rw [HL.out, HM.out, h])))
    have j2 : ((L : Int) != (M : Int)) = true := by simp; omega
    clear hl
    go_enter Tryz.func35, Tryz.ntmps35
    go_wp2_with fail
    go_ret
    exact ⟨by rw [HF.out]; rfl, 0, rfl⟩
  subst hl
  go_enter Tryz.func35, Tryz.ntmps35
  go_wp2_with fail
  go_loopw [13] (fun iv wr => ∃ i k : Nat, iv = .int .i64 (i : Int) ∧ i ≤ L ∧ Hid (NamesTo ns ms i) ∧ Hid (wr = w.drewN k)) (fun iv _ => L - (intOf iv).toNat)
  case atStart => exact ⟨0, 0, rfl, by omega, Lib.hid rfl, Lib.hid rfl⟩
  case round =>
    obtain ⟨i, k, rfl, hi, HN, HK⟩ := hrel
    by_cases hlt : i < L
    · have hil1 : i < ns.length := by rw [← HL.out]; exact hlt
      have hil2 : i < ms.length := by rw [← HM.out]; exact hlt
      obtain ⟨pb, po, rfl, hpb, hpc, hc⟩ := HP.out i hil1
      obtain ⟨qb, qo, rfl, hqb, hqc, hc2⟩ := HQ.out i hil2
      obtain ⟨s, hs⟩ : ∃ s, s = ns.getD i ByteArray.empty := ⟨_, rfl⟩
      obtain ⟨t, ht⟩ : ∃ t, t = ms.getD i ByteArray.empty := ⟨_, rfl⟩
      rw [← hs] at hpc
      rw [← ht] at hqc
      rw [← HL.out] at hc
      rw [← HM.out] at hc2
      have u1 : wr.cell? ⟨pb, po + i, none⟩ = some (.string s) := by rw [HK.out]; exact hpc
      have u2 : wr.cell? ⟨qb, qo + i, none⟩ = some (.string t) := by rw [HK.out]; exact hqc
      have hk0 : (0 : Int) ≤ (i : Int) := by omega
      have hk1 : (i : Int) < (L : Int) := by omega
      clear hpc hqc
      by_cases hst : s = t
      · have HN2 : Hid (NamesTo ns ms (i + 1)) := Lib.hid (namesTo_next HN.out hil1 hil2 (by rw [← hs, ← ht, hst]))
        clear hil1 hil2 hs ht
        subst hst
        clear HN
        go_wp2_with fail
        go_quiet (fail)
        go_wp2
        exact ⟨⟨i + 1, k + nq, by go_num, by omega, HN2, Lib.hid (by rw [HK.out, World.drewN_drewN])⟩, by simp [intOf]; omega⟩
      · have HF : Hid (R = false) := Lib.hid (by rw [HR.out]; exact decide_eq_false (names_ne hil1 (by rw [← hs, ← ht]; exact hst)))
        have hne := str_ne hst
        have hne2 := str_ne' hst
        clear hil1 hil2 hs ht hst HN
        go_wp2_with fail
        go_quiet (fail)
        go_wp2
        go_ret
        exact ⟨by rw [HF.out]; rfl, k + nq, by rw [HK.out, World.drewN_drewN]⟩
    · obtain rfl : i = L := by omega
      have HT : Hid (R = true) := Lib.hid (by
        rw [HR.out]
        refine decide_eq_true ?_
        have h := HN.out
        unfold NamesTo at h
        rw [List.take_of_length_le (by rw [← HL.out]; exact Nat.le_refl _), List.take_of_length_le (by rw [← HM.out]; exact Nat.le_refl _)] at h
        exact h)
      have t1 : decide ((i : Int) < (i : Int)) = false := by simp
      clear HN hlt
      go_wp2
      go_ret
      exact ⟨by rw [HT.out]; rfl, k, HK.out⟩

set_option maxHeartbeats 4000000 in
set_option maxRecDepth 100000 in
theorem eqf_step (d : Nat) (ih : ∀ (a b : Ty) (w : World), a.sz ≤ d → a.In w → b.In w → Calls Tryz.prog 15 #[a.agg, b.agg] w fun e w' => BoolBelow (a.sameB b) w e w')
    (a b : Ty) (w : World) (hd : a.sz ≤ d + 1) (ha : a.In w) (hb : b.In w) : Calls Tryz.prog 36 #[a.xa.val a.xs.length, b.xa.val b.xs.length, .func (Fn.func 15) #[] #[]] w fun e w' => BoolBelow (Ty.sameAll a.xs b.xs) w e w' := by
  obtain ⟨p5, q5, e5, hxa⟩ := titems_at ha
  obtain ⟨r5, t5, g5, hxb⟩ := titems_at hb
  have hal := ha.ok
  rw [e5, g5]
  obtain ⟨M, hM⟩ : ∃ M, M = a.xs.length := ⟨_, rfl⟩
  obtain ⟨M2, hM2⟩ : ∃ M2, M2 = b.xs.length := ⟨_, rfl⟩
  obtain ⟨R, hR⟩ : ∃ R, R = Ty.sameAll a.xs b.xs := ⟨_, rfl⟩
  have hm1 : M ≤ 2513169434843 := by rw [hM]; exact hal.2.2.1
  rw [← hM, ← hM2, ← hR]
  have HXA := Lib.hid hxa; have HXB := Lib.hid hxb; have HM := Lib.hid hM; have HM2 := Lib.hid hM2; have HR0 := Lib.hid hR; have HIH := Lib.hid ih; have HD := Lib.hid hd
  clear hxa hxb hM hM2 hR ih hd ha hb e5 g5 hal
  by_cases hm : M = M2
  case neg =>
    have HF : Hid (R = false) := Lib.hid (by
      rw [HR0.out]
      cases h : Ty.sameAll a.xs b.xs with
      | false => rfl
      | true => exact absurd (sameAll_len h) (by rw [← HM.out, ← HM2.out]; exact hm))
    have j3 : ((M : Int) != (M2 : Int)) = true := by simp; omega
    clear hm
    go_enter Tryz.func36, Tryz.ntmps36
    go_wp2_with fail
    go_ret
    exact ⟨by rw [HF.out]; rfl, Below.refl _ _⟩
  subst hm
  go_enter Tryz.func36, Tryz.ntmps36
  go_wp2_with fail
  go_loopw [17] (fun iv wr => ∃ j : Nat, iv = .int .i64 (j : Int) ∧ j ≤ M ∧ Hid (Ty.sameAll (a.xs.drop j) (b.xs.drop j) = R) ∧ Hid (Below w.heap.size w wr)) (fun iv _ => M - (intOf iv).toNat)
  case atStart => exact ⟨0, rfl, by omega, Lib.hid (by rw [HR0.out]; rfl), Lib.hid (Below.refl _ _)⟩
  case round =>
    obtain ⟨j, rfl, hj, HR, HB⟩ := hrel
    by_cases hlt : j < M
    · have hjl1 : j < a.xs.length := by rw [← HM.out]; exact hlt
      have hjl2 : j < b.xs.length := by rw [← HM2.out]; exact hlt
      obtain ⟨xb, xo, rfl, hpx, hlc⟩ := HXA.out j hjl1
      obtain ⟨yb, yo, rfl, hpy, hlc2⟩ := HXB.out j hjl2
      rw [← HM.out] at hlc
      rw [← HM2.out] at hlc2
      have hdr := sameAll_drop hjl1 hjl2
      obtain ⟨x, hx⟩ : ∃ x, x = a.xs[j]'hjl1 := ⟨_, rfl⟩
      obtain ⟨y, hy⟩ : ∃ y, y = b.xs[j]'hjl2 := ⟨_, rfl⟩
      rw [← hx] at hpx hdr
      rw [← hy] at hpy hdr
      have hxs : x.sz ≤ d := by
        have := Ty.size_mem (v := a) (x := x) (by rw [hx]; simp)
        have := HD.out
        omega
      have hpx2 := hpx.below HB.out
      have hpy2 := hpy.below HB.out
      have u0 := hpx2.c0; have u1 := hpx2.c1; have u2 := hpx2.c2
      have v0 := hpy2.c0; have v1 := hpy2.c1; have v2 := hpy2.c2
      obtain ⟨k4, l4, f4⟩ := hpx2.in.nslice
      obtain ⟨k5, l5, f5⟩ := hpx2.in.xslice
      obtain ⟨m4, n4, h4⟩ := hpy2.in.nslice
      obtain ⟨m5, n5, h5⟩ := hpy2.in.xslice
      rw [f4] at u1; rw [f5] at u2; rw [h4] at v1; rw [h5] at v2
      obtain ⟨W5, hW5⟩ : ∃ W5, W5 = (wr.alloc (.cells #[.int .i64 x.k, .slice k4 x.ns.length l4, .slice k5 x.xs.length l5] 36)).alloc (.cells #[.int .i64 y.k, .slice m4 y.ns.length n4, .slice m5 y.xs.length n5] 36) := ⟨_, rfl⟩
      have hb5 : Below wr.heap.size wr W5 := by rw [hW5]; exact ((Below.refl _ _).alloc (Nat.le_refl _) _).alloc (by simp) _
      have w0 : Blk W5 wr.heap.size 36 #[.int .i64 x.k, .slice k4 x.ns.length l4, .slice k5 x.xs.length l5] := by rw [hW5]; exact (Blk.new wr 36 _).alloc _
      have w1 : Blk W5 (wr.heap.size + 1) 36 #[.int .i64 y.k, .slice m4 y.ns.length n4, .slice m5 y.xs.length n5] := by
        rw [hW5]
        have := Blk.new (wr.alloc (.cells #[.int .i64 x.k, .slice k4 x.ns.length l4, .slice k5 x.xs.length l5] 36)) 36 #[.int .i64 y.k, .slice m4 y.ns.length n4, .slice m5 y.xs.length n5]
        rw [show (wr.alloc (.cells #[.int .i64 x.k, .slice k4 x.ns.length l4, .slice k5 x.xs.length l5] 36)).heap.size = wr.heap.size + 1 from by simp] at this
        exact this
      have hcall := HIH.out x y W5 hxs (hpx2.in.below hb5) (hpy2.in.below hb5)
      unfold Ty.agg at hcall
      rw [f4, f5, h4, h5] at hcall
      have HC := Lib.hid hcall; have HW5 := Lib.hid hW5; have HB5 := Lib.hid (HB.out.trans (hb5.mono HB.out.size)); have W0 := Lib.hid w0; have W1 := Lib.hid w1
      have HDR : Hid (R = (x.sameB y && Ty.sameAll (a.xs.drop (j + 1)) (b.xs.drop (j + 1)))) := Lib.hid (by rw [← HR.out, hdr])
      have hk0 : (0 : Int) ≤ (j : Int) := by omega
      have hk1 : (j : Int) < (M : Int) := by omega
      have hbx := hpx2.2.1
      have hby := hpy2.2.1
      clear hcall hpx hpy hpx2 hpy2 hx hy hdr hjl1 hjl2 HR f4 f5 h4 h5 hxs hW5 hb5 w0 w1
      go_upto_region 7 with fail
      rw [← HW5.out]
      clear u0 u1 u2 v0 v1 v2
      have u0 := W0.out.cell 0; have u1 := W0.out.cell 1; have u2 := W0.out.cell 2
      have v0 := W1.out.cell 0; have v1 := W1.out.cell 1; have v2 := W1.out.cell 2
      simp at u0 u1 u2 v0 v1 v2
      cases hsb : x.sameB y with
      | false =>
        rw [hsb] at HC HDR
        clear hsb
        go_wp2_with fail
        refine HC.out.mono ?_
        rintro e w6 ⟨rfl, hb6⟩
        have HB6 := Lib.hid (HB5.out.trans (hb6.mono HB5.out.size))
        clear hb6 HC
        go_wp2
        go_ret
        exact ⟨by rw [HDR.out]; rfl, HB6.out⟩
      | true =>
        rw [hsb] at HC HDR
        clear hsb
        go_wp2_with fail
        refine HC.out.mono ?_
        rintro e w6 ⟨rfl, hb6⟩
        have HB6 := Lib.hid (HB5.out.trans (hb6.mono HB5.out.size))
        clear hb6 HC
        go_wp2
        go_roundw
        case rel => exact ⟨j + 1, by go_num, by omega, Lib.hid (by rw [HDR.out]; rfl), HB6⟩
        case measure => simp [intOf]; omega
    · obtain rfl : j = M := by omega
      have HR2 : Hid (R = true) := Lib.hid (by
        rw [← HR.out, List.drop_eq_nil_of_le (by rw [← HM.out]; exact Nat.le_refl _), List.drop_eq_nil_of_le (by rw [← HM2.out]; exact Nat.le_refl _)]
        rfl)
      have t2 : decide ((j : Int) < (j : Int)) = false := by simp
      clear HR hlt
      go_wp2
      go_ret
      exact ⟨by rw [HR2.out]; rfl, HB.out⟩

set_option maxHeartbeats 4000000 in
set_option maxRecDepth 100000 in
theorem tsame_step (d : Nat) (ih : ∀ (a b : Ty) (w : World), a.sz ≤ d → a.In w → b.In w → Calls Tryz.prog 15 #[a.agg, b.agg] w fun e w' => BoolBelow (a.sameB b) w e w')
    (a b : Ty) (w : World) (hd : a.sz ≤ d + 1) (ha : a.In w) (hb : b.In w) : Calls Tryz.prog 15 #[a.agg, b.agg] w fun e w' => BoolBelow (a.sameB b) w e w' := by
  obtain ⟨A, hA⟩ : ∃ A, A = w.heap.size := ⟨_, rfl⟩
  obtain ⟨W, hW⟩ : ∃ W, W = (w.alloc (.cells a.cells.toArray 36)).alloc (.cells b.cells.toArray 36) := ⟨_, rfl⟩
  have hBW : Below w.heap.size w W := by rw [hW]; exact ((Below.refl _ w).alloc (Nat.le_refl _) _).alloc (by simp) _
  have hpa : Blk W A 36 a.cells.toArray := by rw [hW, hA]; exact (Blk.new w 36 _).alloc _
  have hpb : Blk W (A + 1) 36 b.cells.toArray := by
    rw [hW, hA]
    have := Blk.new (w.alloc (.cells a.cells.toArray 36)) 36 b.cells.toArray
    rw [show (w.alloc (.cells a.cells.toArray 36)).heap.size = w.heap.size + 1 from by simp] at this
    exact this
  have haW := ha.below hBW
  have hbW := hb.below hBW
  have heq := eqs_any _ _ a.ns b.ns W (TNamesAt.of haW) (TNamesAt.of hbW) ha.ok.2.1
  have hef := fun (k : Nat) => eqf_step d ih a b (W.drewN k) hd (haW.drewN k) (hbW.drewN k)
  obtain ⟨p4, q4, e4⟩ := ha.nslice
  obtain ⟨p5, q5, e5⟩ := ha.xslice
  obtain ⟨r4, t4, g4⟩ := hb.nslice
  obtain ⟨r5, t5, g5⟩ := hb.xslice
  unfold Ty.cells at hW hpa hpb
  unfold Ty.agg
  rw [e4, e5] at hpa hW ⊢
  rw [g4, g5] at hpb hW ⊢
  rw [e4, g4] at heq
  rw [e5, g5] at hef
  have e := Ty.sameB_eq a b
  obtain ⟨R, hR⟩ : ∃ R, R = a.sameB b := ⟨_, rfl⟩
  rw [← hR] at e ⊢
  obtain ⟨K, hK⟩ : ∃ K, K = a.k := ⟨_, rfl⟩
  obtain ⟨K2, hK2⟩ : ∃ K2, K2 = b.k := ⟨_, rfl⟩
  rw [← hK] at hpa hW ⊢
  rw [← hK2] at hpb hW ⊢
  rw [← hK, ← hK2] at e
  have a0 := hpa.cell 0; have a1 := hpa.cell 1; have a2 := hpa.cell 2
  have b0 := hpb.cell 0; have b1 := hpb.cell 1; have b2 := hpb.cell 2
  simp at a0 a1 a2 b0 b1 b2
  have HW := Lib.hid hW; have HBW := Lib.hid hBW; have HPA := Lib.hid hpa; have HPB := Lib.hid hpb; have HA := Lib.hid hA
  obtain ⟨Q, hQ⟩ : ∃ Q, Q = decide (a.ns = b.ns) := ⟨_, rfl⟩
  rw [← hQ] at heq e
  obtain ⟨S, hS⟩ : ∃ S, S = Ty.sameAll a.xs b.xs := ⟨_, rfl⟩
  rw [← hS] at hef e
  have HE := Lib.hid e; have HEQ := Lib.hid heq; have HEF := Lib.hid hef
  clear hW hBW hpa hpb hA haW hbW heq hef e4 e5 g4 g5 e hK hK2 hQ hS hR ih hd ha hb
  by_cases hk : K = K2
  case neg =>
    have HR : Hid (R = false) := Lib.hid (by rw [HE.out, decide_eq_false hk]; rfl)
    have j1 : (K == K2) = false := by simpa using hk
    clear hk
    go_enter Tryz.func15, Tryz.ntmps15
    go_wp2_with fail
    rw [← HW.out, ← HA.out]
    go_wp2_with fail
    go_ret
    exact ⟨by rw [HR.out]; rfl, HBW.out⟩
  subst hk
  cases Q with
  | false =>
    have HR : Hid (R = false) := Lib.hid (by rw [HE.out]; simp)
    go_enter Tryz.func15, Tryz.ntmps15
    go_wp2_with fail
    rw [← HW.out, ← HA.out]
    go_wp2_with fail
    refine HEQ.out.mono ?_
    rintro e w1 ⟨rfl, k, rfl⟩
    go_wp2
    go_ret
    exact ⟨by rw [HR.out]; rfl, below_drewN HBW.out _⟩
  | true =>
    have HR : Hid (R = S) := Lib.hid (by rw [HE.out]; simp)
    go_enter Tryz.func15, Tryz.ntmps15
    go_wp2_with fail
    rw [← HW.out, ← HA.out]
    go_wp2_with fail
    refine HEQ.out.mono ?_
    rintro e w1 ⟨rfl, k, rfl⟩
    go_wp2_with fail
    refine (HEF.out k).mono ?_
    rintro e w2 ⟨rfl, hb2⟩
    have HB2 := Lib.hid ((below_drewN HBW.out k).trans (hb2.mono (below_drewN HBW.out k).size))
    clear hb2
    go_wp2
    go_ret
    exact ⟨by rw [HR.out]; rfl, HB2.out⟩
theorem tsame_any : ∀ (d : Nat) (a b : Ty) (w : World), a.sz ≤ d → a.In w → b.In w → Calls Tryz.prog 15 #[a.agg, b.agg] w fun e w' => BoolBelow (a.sameB b) w e w'
  | 0, a, _, _, hd, _, _ => by rw [Ty.sz_eq] at hd; omega
  | d + 1, a, b, w, hd, ha, hb => tsame_step d (fun a b w h1 h2 h3 => tsame_any d a b w h1 h2 h3) a b w hd ha hb
end Go.Proofs.YtjpdbhhjlnmacaaGreat
