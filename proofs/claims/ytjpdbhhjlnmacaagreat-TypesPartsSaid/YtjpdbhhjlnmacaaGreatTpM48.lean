/- basculeref08.Right and Small of any expression. -/
import Derived.Test.YtjpdbhhjlnmacaaGreatTpM47
namespace Go.Proofs.YtjpdbhhjlnmacaaGreat
set_option linter.unusedVariables false
open Go.RowKit

set_option maxHeartbeats 1000000 in
set_option maxRecDepth 100000 in
theorem rxrightf_any (x : Exp) (w : World) (h : x.In w) : Calls Tryz.prog 33 #[x.agg] w fun e w' => BoolBelow x.RightB w e w' := by
  obtain ⟨W, hW⟩ : ∃ W, W = w.alloc (.cells x.cells.toArray 29) := ⟨_, rfl⟩
  have hBW : Below w.heap.size w W := by rw [hW]; exact (Below.refl _ w).alloc (Nat.le_refl _) _
  have hb0 : Blk W w.heap.size 29 x.cells.toArray := by rw [hW]; exact Blk.new w 29 _
  have hIn := h.below hBW
  have hc := xrparts_any x W hIn
  have hr := fun (W' : World) (hb : Below W.heap.size W W') => rxright_any x.sz x 12 W' (Nat.le_refl _) (by omega) (hIn.below hb)
  obtain ⟨p8, q8, e8⟩ := h.nslice
  obtain ⟨p9, q9, e9⟩ := h.xslice
  obtain ⟨p6, q6, e6⟩ := h.val.nslice
  obtain ⟨p7, q7, e7⟩ := h.val.xslice
  unfold Exp.cells at hW hb0
  unfold Exp.agg at hc hr ⊢
  rw [e6, e7, e8, e9] at hW hc hr hb0 ⊢
  have hE : x.RightB = (decide (x.count 0 ≤ 200) && x.rightB 1) := rfl
  obtain ⟨R, hR⟩ : ∃ R, R = x.RightB := ⟨_, rfl⟩
  obtain ⟨C, hC⟩ : ∃ C, C = x.count 0 := ⟨_, rfl⟩
  obtain ⟨Q, hQ⟩ : ∃ Q, Q = x.rightB 1 := ⟨_, rfl⟩
  rw [← hR, ← hC, ← hQ] at hE
  rw [← hR]
  rw [← hC] at hc
  simp only [show 13 - 12 = 1 from rfl, ← hQ] at hr
  have c0 := hb0.cell 0; have c1 := hb0.cell 1; have c2 := hb0.cell 2; have c3 := hb0.cell 3; have c4 := hb0.cell 4; have c5 := hb0.cell 5; have c6 := hb0.cell 6; have c7 := hb0.cell 7; have c8 := hb0.cell 8; have c9 := hb0.cell 9
  simp only [List.getElem?_toArray, List.getElem?_cons_zero, List.getElem?_cons_succ] at c0 c1 c2 c3 c4 c5 c6 c7 c8 c9
  have HW := Lib.hid hW; have HBW := Lib.hid hBW; have HC := Lib.hid hc; have HR := Lib.hid hr; have HE := Lib.hid hE; have HB0 := Lib.hid hb0
  clear hW hBW hc hr hE hR hC hQ e6 e7 e8 e9 h hIn hb0
  by_cases h200 : C ≤ 200
  · have i1 : decide ((C : Int) ≤ 200) = true := by simp; omega
    rw [decide_eq_true h200] at HE
    clear h200
    go_enter Tryz.func33, Tryz.ntmps33
    go_wp2_with fail
    rw [← HW.out]
    go_wp2_with fail
    refine HC.out.mono ?_
    rintro e w1 ⟨rfl, hb⟩
    have HR1 := Lib.hid (HR.out w1 hb)
    have HB1 := Lib.hid (HBW.out.trans (hb.mono HBW.out.size))
    have hbx := HB0.out.below hb HB0.out.lt
    clear c0 c1 c2 c3 c4 c5 c6 c7 c8 c9
    have c0 := hbx.cell 0; have c1 := hbx.cell 1; have c2 := hbx.cell 2; have c3 := hbx.cell 3; have c4 := hbx.cell 4; have c5 := hbx.cell 5; have c6 := hbx.cell 6; have c7 := hbx.cell 7; have c8 := hbx.cell 8; have c9 := hbx.cell 9
    simp only [List.getElem?_toArray, List.getElem?_cons_zero, List.getElem?_cons_succ] at c0 c1 c2 c3 c4 c5 c6 c7 c8 c9
    clear hb hbx
    go_wp2_with fail
    refine HR1.out.mono ?_
    rintro e w2 ⟨rfl, hb2⟩
    have HB2 := Lib.hid (HB1.out.trans (hb2.mono HB1.out.size))
    clear hb2
    go_wp2
    go_ret
    exact ⟨by rw [HE.out]; simp, HB2.out⟩
  · have i1 : decide ((C : Int) ≤ 200) = false := by simp; omega
    rw [decide_eq_false h200] at HE
    clear h200
    go_enter Tryz.func33, Tryz.ntmps33
    go_wp2_with fail
    rw [← HW.out]
    go_wp2_with fail
    refine HC.out.mono ?_
    rintro e w1 ⟨rfl, hb⟩
    have HB1 := Lib.hid (HBW.out.trans (hb.mono HBW.out.size))
    clear hb
    go_wp2
    go_ret
    exact ⟨by rw [HE.out]; simp, HB1.out⟩

mutual
def Exp.smallB : Exp → Bool
  | .mk k s v na ns xa xs => decide ((Exp.mk k s v na ns xa xs).depth 40 ≤ 30) && decide ((Exp.mk k s v na ns xa xs).count 0 < 500) && v.smallB && Exp.smallAll xs
def Exp.smallAll : List Exp → Bool
  | [] => true
  | x :: xs => x.smallB && Exp.smallAll xs
end
theorem Exp.smallB_eq (x : Exp) : x.smallB = (decide (x.depth 40 ≤ 30) && decide (x.count 0 < 500) && x.v.smallB && Exp.smallAll x.xs) := by
  cases x
  simp only [Exp.smallB, Exp.v, Exp.xs]
theorem xsmallAll_drop {xs : List Exp} {i : Nat} (h : i < xs.length) : Exp.smallAll (xs.drop i) = ((xs[i]'h).smallB && Exp.smallAll (xs.drop (i + 1))) := by
  rw [List.drop_eq_getElem_cons h]
  simp only [Exp.smallAll]

set_option maxHeartbeats 8000000 in
set_option maxRecDepth 100000 in
theorem xsmall_step (d : Nat) (ih : ∀ (x : Exp) (w : World), x.sz ≤ d → x.In w → Calls Tryz.prog 9 #[x.agg] w fun e w' => BoolBelow x.smallB w e w')
    (x : Exp) (w : World) (hd : x.sz ≤ d + 1) (h : x.In w) : Calls Tryz.prog 9 #[x.agg] w fun e w' => BoolBelow x.smallB w e w' := by
  obtain ⟨W, hW⟩ : ∃ W, W = w.alloc (.cells x.cells.toArray 29) := ⟨_, rfl⟩
  have hBW : Below w.heap.size w W := by rw [hW]; exact (Below.refl _ w).alloc (Nat.le_refl _) _
  have hb0 : Blk W w.heap.size 29 x.cells.toArray := by rw [hW]; exact Blk.new w 29 _
  have hIn := h.below hBW
  have hdp := xdepth_any x.sz x 40 W (Nat.le_refl _) (by omega) hIn
  have hpt := fun (W' : World) (hb : Below W.heap.size W W') => xrparts_any x W' (hIn.below hb)
  have hvs := fun (W' : World) (hb : Below W.heap.size W W') => small_any x.v W' (hIn.val.below hb)
  obtain ⟨p8, q8, e8⟩ := h.nslice
  obtain ⟨p9, q9, e9, hx⟩ := xitems_at hIn
  obtain ⟨p6, q6, e6⟩ := h.val.nslice
  obtain ⟨p7, q7, e7⟩ := h.val.xslice
  have hdl := Exp.depth_le 40 x
  have hcl := Exp.count_le x.sz x 0 (Nat.le_refl _) (by omega)
  have hxl := h.ok.2.2.2.1
  unfold Exp.cells at hW hb0
  unfold Exp.agg at hdp hpt ⊢
  unfold Val.agg at hvs
  rw [e6, e7] at hvs
  rw [e6, e7, e8, e9] at hW hdp hpt hb0 ⊢
  have hE := Exp.smallB_eq x
  obtain ⟨R, hR⟩ : ∃ R, R = x.smallB := ⟨_, rfl⟩
  obtain ⟨D, hD⟩ : ∃ D, D = x.depth 40 := ⟨_, rfl⟩
  obtain ⟨C, hC⟩ : ∃ C, C = x.count 0 := ⟨_, rfl⟩
  obtain ⟨V, hV⟩ : ∃ V, V = x.v.smallB := ⟨_, rfl⟩
  obtain ⟨M, hM⟩ : ∃ M, M = x.xs.length := ⟨_, rfl⟩
  rw [← hR, ← hD, ← hC, ← hV] at hE
  rw [← hR]
  rw [← hD] at hdp hdl
  rw [← hC] at hpt hcl
  rw [← hV] at hvs
  rw [← hM] at hW hb0 hdp hpt hxl ⊢
  obtain ⟨hcl1, hcl2⟩ := hcl
  have c0 := hb0.cell 0; have c1 := hb0.cell 1; have c2 := hb0.cell 2; have c3 := hb0.cell 3; have c4 := hb0.cell 4; have c5 := hb0.cell 5; have c6 := hb0.cell 6; have c7 := hb0.cell 7; have c8 := hb0.cell 8; have c9 := hb0.cell 9
  simp only [List.getElem?_toArray, List.getElem?_cons_zero, List.getElem?_cons_succ] at c0 c1 c2 c3 c4 c5 c6 c7 c8 c9
  have HW := Lib.hid hW; have HBW := Lib.hid hBW; have HDP := Lib.hid hdp; have HPT := Lib.hid hpt; have HVS := Lib.hid hvs; have HE := Lib.hid hE; have HB0 := Lib.hid hb0; have HX := Lib.hid hx; have HM := Lib.hid hM; have HIH := Lib.hid ih
  have HMM := Lib.hid (show ∀ y, y ∈ x.xs → y.sz ≤ d from fun y hy => by have := Exp.size_mem hy; omega)
  clear hW hBW hdp hpt hvs hE hR hD hC hV hM hx ih hd e6 e7 e8 e9 h hIn hb0
  by_cases hd30 : D ≤ 30
  case neg =>
    have HR : Hid (R = false) := Lib.hid (by rw [HE.out, decide_eq_false hd30]; rfl)
    have i1 : decide ((30 : Int) < (D : Int)) = true := by simp; omega
    clear hd30
    go_enter Tryz.func9, Tryz.ntmps9
    go_wp2_with fail
    rw [← HW.out]
    go_wp2_with fail
    refine HDP.out.mono ?_
    rintro e w1 ⟨rfl, hb⟩
    have HB1 := Lib.hid (HBW.out.trans (hb.mono HBW.out.size))
    clear hb
    go_wp2
    go_ret
    exact ⟨by rw [HR.out]; rfl, HB1.out⟩
  have i1 : decide ((30 : Int) < (D : Int)) = false := by simp; omega
  rw [decide_eq_true hd30] at HE
  clear hd30
  go_enter Tryz.func9, Tryz.ntmps9
  go_wp2_with fail
  rw [← HW.out]
  go_wp2_with fail
  refine HDP.out.mono ?_
  rintro e w1 ⟨rfl, hb⟩
  have HP1 := Lib.hid (HPT.out w1 hb)
  have HB1 := Lib.hid hb
  have hbx := HB0.out.below hb HB0.out.lt
  clear c0 c1 c2 c3 c4 c5 c6 c7 c8 c9
  have c0 := hbx.cell 0; have c1 := hbx.cell 1; have c2 := hbx.cell 2; have c3 := hbx.cell 3; have c4 := hbx.cell 4; have c5 := hbx.cell 5; have c6 := hbx.cell 6; have c7 := hbx.cell 7; have c8 := hbx.cell 8; have c9 := hbx.cell 9
  simp only [List.getElem?_toArray, List.getElem?_cons_zero, List.getElem?_cons_succ] at c0 c1 c2 c3 c4 c5 c6 c7 c8 c9
  clear hb hbx
  go_wp2_with fail
  refine HP1.out.mono ?_
  rintro e w2 ⟨rfl, hb⟩
  have HB2 := Lib.hid (HB1.out.trans (hb.mono HB1.out.size))
  clear hb
  by_cases hc5 : C < 500
  case neg =>
    have HR : Hid (R = false) := Lib.hid (by rw [HE.out, decide_eq_false hc5]; rfl)
    have i2 : decide ((500 : Int) ≤ (C : Int)) = true := by simp; omega
    clear hc5 c0 c1 c2 c3 c4 c5 c6 c7 c8 c9
    go_wp2
    go_ret
    exact ⟨by rw [HR.out]; rfl, HBW.out.trans (HB2.out.mono HBW.out.size)⟩
  have i2 : decide ((500 : Int) ≤ (C : Int)) = false := by simp; omega
  rw [decide_eq_true hc5] at HE
  have HV2 := Lib.hid (HVS.out w2 HB2.out)
  have hbx := HB0.out.below HB2.out HB0.out.lt
  clear c0 c1 c2 c3 c4 c5 c6 c7 c8 c9 hc5
  have c2 := hbx.cell 2; have c3 := hbx.cell 3; have c4 := hbx.cell 4; have c5 := hbx.cell 5; have c6 := hbx.cell 6; have c7 := hbx.cell 7
  simp only [List.getElem?_toArray, List.getElem?_cons_zero, List.getElem?_cons_succ] at c2 c3 c4 c5 c6 c7
  clear hbx
  go_wp2_with fail
  refine HV2.out.mono ?_
  rintro e w3 ⟨rfl, hb⟩
  have HB3 := Lib.hid (HB2.out.trans (hb.mono HB2.out.size))
  clear hb c2 c3 c4 c5 c6 c7
  cases V with
  | false =>
    have HR : Hid (R = false) := Lib.hid (by rw [HE.out]; rfl)
    go_wp2
    go_ret
    exact ⟨by rw [HR.out]; rfl, HBW.out.trans (HB3.out.mono HBW.out.size)⟩
  | true =>
    have HE2 : Hid (R = Exp.smallAll x.xs) := Lib.hid (by rw [HE.out]; simp)
    go_wp2_with fail
    go_loopw [3] (fun iv wr => ∃ j : Nat, iv = .int .i64 (j : Int) ∧ j ≤ M ∧ Hid (Exp.smallAll (x.xs.drop j) = R) ∧ Hid (Below W.heap.size W wr)) (fun iv _ => M - (intOf iv).toNat)
    case atStart => exact ⟨0, rfl, by omega, Lib.hid (by rw [HE2.out]; rfl), HB3⟩
    case round =>
      obtain ⟨j, rfl, hj, HRJ, HB⟩ := hrel
      have hb := HB0.out.below HB.out HB0.out.lt
      have c9 := hb.cell 9
      simp only [List.getElem?_toArray, List.getElem?_cons_zero, List.getElem?_cons_succ] at c9
      clear hb
      by_cases hlt2 : j < M
      · have hil : j < x.xs.length := by rw [← HM.out]; exact hlt2
        obtain ⟨xb, xo, rfl, hpx0, hlc⟩ := HX.out j hil
        rw [← HM.out] at hlc
        have hdr := xsmallAll_drop hil
        rw [HRJ.out] at hdr
        obtain ⟨y, hy⟩ : ∃ y, y = x.xs[j]'hil := ⟨_, rfl⟩
        have hys := HMM.out (x.xs[j]'hil) (by simp)
        rw [← hy] at hdr hpx0 hys
        have hpx := hpx0.below HB.out
        have hc := HIH.out y wr hys hpx.in
        obtain ⟨r8, t8, g8⟩ := hpx.in.nslice
        obtain ⟨r9, t9, g9⟩ := hpx.in.xslice
        obtain ⟨r6, t6, g6⟩ := hpx.in.val.nslice
        obtain ⟨r7, t7, g7⟩ := hpx.in.val.xslice
        have d0 := hpx.c0; have d1 := hpx.c1; have d2 := hpx.c2; have d3 := hpx.c3; have d4 := hpx.c4; have d5 := hpx.c5; have d6 := hpx.c6; have d7 := hpx.c7; have d8 := hpx.c8; have d9 := hpx.c9
        rw [g6] at d6; rw [g7] at d7; rw [g8] at d8; rw [g9] at d9
        unfold Exp.agg at hc
        rw [g6, g7, g8, g9] at hc
        obtain ⟨YB, hYB⟩ : ∃ YB, YB = y.smallB := ⟨_, rfl⟩
        rw [← hYB] at hc hdr
        have hk0 : (0 : Int) ≤ (j : Int) := by omega
        have hk1 : (j : Int) < (M : Int) := by omega
        have HC := Lib.hid hc; have HDR := Lib.hid hdr
        have hbx := hpx.2.1
        clear hc hdr hy hys hpx hpx0 hYB hil g6 g7 g8 g9
        go_wp2_with fail
        refine HC.out.mono ?_
        rintro e w6 ⟨rfl, hb6⟩
        have HB7 := Lib.hid (HB.out.trans (hb6.mono HB.out.size))
        clear hb6 c9 d0 d1 d2 d3 d4 d5 d6 d7 d8 d9
        cases YB with
        | false =>
          go_wp2
          go_ret
          exact ⟨by rw [HDR.out]; rfl, HBW.out.trans (HB7.out.mono HBW.out.size)⟩
        | true =>
          go_wp2
          go_roundw
          case rel => exact ⟨j + 1, by go_num, by omega, Lib.hid (by rw [HDR.out]; rfl), HB7⟩
          case measure => simp [intOf]; omega
      · have HT : Hid (R = true) := Lib.hid (by
          rw [← HRJ.out, List.drop_eq_nil_of_le (by rw [← HM.out]; omega)]
          rfl)
        go_wp2
        go_ret
        exact ⟨by rw [HT.out]; rfl, HBW.out.trans (HB.out.mono HBW.out.size)⟩
theorem xsmall_any : ∀ (d : Nat) (x : Exp) (w : World), x.sz ≤ d → x.In w → Calls Tryz.prog 9 #[x.agg] w fun e w' => BoolBelow x.smallB w e w'
  | 0, x, w, hd, _ => by rw [Exp.sz_eq] at hd; omega
  | d + 1, x, w, hd, h => xsmall_step d (fun x w h1 h2 => xsmall_any d x w h1 h2) x w hd h
end Go.Proofs.YtjpdbhhjlnmacaaGreat
