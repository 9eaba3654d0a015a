/- basculeref09.plain, pair (printed by wip/gen_refpair.py). -/
import Derived.Test.YtjpdbhhjlnmacaaGreatTcM31
import Derived.RegionTactic
import Derived.Deep.DeepCutAuto
import Derived.Deep.AppendLies
namespace Go.Proofs.YtjpdbhhjlnmacaaGreat
set_option linter.unusedVariables false
open Go.RowKit

theorem rplain_any (k : Int) (w : World) : Calls Tryz.prog 54 #[.int .i64 k] w fun e w' => OfDone k w e w' := by
  obtain ⟨W, hW⟩ : ∃ W, W = w.alloc (.cells #[.int .i64 k, .slice none 0 0, .slice none 0 0] 36) := ⟨_, rfl⟩
  have hb := Blk.new w 36 #[.int .i64 k, .slice none 0 0, .slice none 0 0]
  rw [← hW] at hb
  have f0 := hb.cell 0; have f1 := hb.cell 1; have f2 := hb.cell 2
  simp at f0 f1 f2
  have HW := Lib.hid hW
  have HB : Hid (Below w.heap.size w W) := Lib.hid (by rw [hW]; exact (Below.refl _ _).alloc (Nat.le_refl _) _)
  clear hW hb
  go_enter Tryz.func54, Tryz.ntmps54
  go_wp2_with fail
  rw [← HW.out]
  refine bodyPost_ret (v := .agg #[.int .i64 k, .slice none 0 0, .slice none 0 0]) (by simp [results, Tryz.results54, go_sem, f0, f1, f2]) rfl ?_
  exact ⟨rfl, HB.out⟩

def pairP (k : Int) (ks : List Ty) : Except Int Ty :=
  if k = 5 then (if bothP ks 2 || bothP ks 3 || (bothP ks 4 || (bothP ks 5 && ((nthT ks 0).joinT (nthT ks 1)).isSome)) then .ok (((nthT ks 0).joinT (nthT ks 1)).getD Ty.zero) else .error 6)
  else if k = 6 ∨ k = 7 ∨ k = 8 then (if bothP ks 2 || bothP ks 3 then .ok (((nthT ks 0).joinT (nthT ks 1)).getD Ty.zero) else .error 6)
  else if k = 9 then (if bothP ks 2 then .ok (((nthT ks 0).joinT (nthT ks 1)).getD Ty.zero) else .error 6)
  else if k = 10 then (if ((nthT ks 0).joinT (nthT ks 1)).isSome then .ok (Ty.of 1) else .error 6)
  else if k = 11 ∨ k = 12 then (if bothP ks 2 || bothP ks 3 || bothP ks 4 then .ok (Ty.of 1) else .error 6)
  else if k = 13 ∨ k = 14 then (if bothP ks 1 then .ok (Ty.of 1) else .error 6)
  else .error 6

set_option maxHeartbeats 8000000 in
set_option maxRecDepth 100000 in
theorem pair_any (k : Int) (ks : List Ty) (p : Option Addr) (c : Nat) (P : Nat → Prop) (w : World) (hP : ∀ b, P b → b < w.heap.size) (h : TKids w p c ks) (h2 : ks.length = 2) (hS : ∀ x, x ∈ ks → x.Sep P) (hRt : ∀ x, x ∈ ks → ∃ n, x.rightB n = true) :
    Calls Tryz.prog 57 #[.int .i64 k, .slice p ks.length c] w fun e w' => RGave (pairP k ks) P w e w' := by
  obtain ⟨W, hW⟩ : ∃ W, W = w.alloc (.cells #[.int .i64 0, .slice none 0 0, .slice none 0 0] 36) := ⟨_, rfl⟩
  have hBW : Below w.heap.size w W := by rw [hW]; exact (Below.refl _ _).alloc (Nat.le_refl _) _
  have hbr : Blk W w.heap.size 36 #[.int .i64 0, .slice none 0 0, .slice none 0 0] := by rw [hW]; exact Blk.new w 36 _
  have hWS : W.heap.size = w.heap.size + 1 := by rw [hW]; simp
  obtain ⟨A, hA⟩ : ∃ A, A = w.heap.size := ⟨_, rfl⟩
  rw [← hA] at hbr hWS
  have hK := h.below hBW
  have hkk := fun (k : Int) (W' : World) (hb : Below W.heap.size W W') => both_any ks p c k W' (hK.below hb) (by omega)
  obtain ⟨a, ha⟩ : ∃ a, a = nthT ks 0 := ⟨_, rfl⟩
  obtain ⟨d, hd⟩ : ∃ d, d = nthT ks 1 := ⟨_, rfl⟩
  have ham : a ∈ ks := by rw [ha]; simp [nthT, List.getD_eq_getElem?_getD, h2]
  have hdm : d ∈ ks := by rw [hd]; simp [nthT, List.getD_eq_getElem?_getD, h2]
  obtain ⟨b, o, rfl, q0⟩ := hK.nth (i := 0) (by omega)
  obtain ⟨b', o', e, q1⟩ := hK.nth (i := 1) (by omega)
  injection e with e
  injection e with e1 e2
  subst e1 e2
  rw [← ha] at q0
  rw [← hd] at q1
  simp only [Nat.zero_mul, Nat.one_mul, Nat.add_zero] at q0 q1
  obtain ⟨p4, l4, f4⟩ := q0.in.nslice
  obtain ⟨p5, l5, f5⟩ := q0.in.xslice
  obtain ⟨m4, n4, h4⟩ := q1.in.nslice
  obtain ⟨m5, n5, h5⟩ := q1.in.xslice
  obtain ⟨JT, hJT⟩ : ∃ JT, JT = a.joinT d := ⟨_, rfl⟩
  have hjn := fun (W' : World) (hb : Below W.heap.size W W') => rjoin_any a.sz a d P W' (Nat.le_refl _) (fun b hb' => by have := hP b hb'; have := hb.size; omega) (q0.in.below hb) (q1.in.below hb) (hRt a ham) (hRt d hdm) (hS a ham) (hS d hdm)
  unfold Ty.agg at hjn
  rw [f4, f5, h4, h5, ← hJT] at hjn
  obtain ⟨B1, hB1⟩ : ∃ B1, B1 = bothP ks 1 := ⟨_, rfl⟩
  obtain ⟨B2, hB2⟩ : ∃ B2, B2 = bothP ks 2 := ⟨_, rfl⟩
  obtain ⟨B3, hB3⟩ : ∃ B3, B3 = bothP ks 3 := ⟨_, rfl⟩
  obtain ⟨B4, hB4⟩ : ∃ B4, B4 = bothP ks 4 := ⟨_, rfl⟩
  obtain ⟨B5, hB5⟩ : ∃ B5, B5 = bothP ks 5 := ⟨_, rfl⟩
  obtain ⟨NB, hNB⟩ : ∃ NB, NB = (B2 || B3) := ⟨_, rfl⟩
  obtain ⟨R, hR⟩ : ∃ R, R = pairP k ks := ⟨_, rfl⟩
  rw [← hR]
  unfold pairP at hR
  rw [← ha, ← hd, ← hJT, ← hB1, ← hB2, ← hB3, ← hB4, ← hB5, ← hNB] at hR
  have k1 := hkk 1; have k2 := hkk 2; have k3 := hkk 3; have k4 := hkk 4; have k5 := hkk 5
  rw [← hB1] at k1; rw [← hB2] at k2; rw [← hB3] at k3; rw [← hB4] at k4; rw [← hB5] at k5
  have c0 := q0.c0; have c1 := q0.c1; have c2 := q0.c2
  have d0 := q1.c0; have d1 := q1.c1; have d2 := q1.c2
  rw [f4] at c1; rw [f5] at c2; rw [h4] at d1; rw [h5] at d2
  have hcc := fun (W' : World) (hb : Below W.heap.size W W') => And.intro ((hb.cell (p := ⟨b, o, none⟩) q0.2.1).trans c0) (And.intro ((hb.cell (p := ⟨b, o + 1, none⟩) q0.2.1).trans c1) (And.intro ((hb.cell (p := ⟨b, o + 2, none⟩) q0.2.1).trans c2) (And.intro ((hb.cell (p := ⟨b, o + 3, none⟩) q0.2.1).trans d0) (And.intro ((hb.cell (p := ⟨b, o + 3 + 1, none⟩) q0.2.1).trans d1) ((hb.cell (p := ⟨b, o + 3 + 2, none⟩) q0.2.1).trans d2)))))
  have hblt := q0.2.1
  have hcap : 2 ≤ c := by have := h.cap; omega
  rw [h2] at k1 k2 k3 k4 k5 ⊢
  have HW := Lib.hid hW; have HBW := Lib.hid hBW; have HRB := Lib.hid hbr; have HWS := Lib.hid hWS; have HA := Lib.hid hA
  have K1 := Lib.hid k1; have K2 := Lib.hid k2; have K3 := Lib.hid k3; have K4 := Lib.hid k4; have K5 := Lib.hid k5; have HJN := Lib.hid hjn; have HR := Lib.hid hR; have HNB := Lib.hid hNB; have HCC := Lib.hid hcc; have HPP := Lib.hid hP; have HBLT := Lib.hid hblt
  clear hNB hW hBW hbr hWS hA k1 k2 k3 k4 k5 hjn hR hcc hP hblt hK hkk ha hd ham hdm q0 q1 f4 f5 h4 h5 hJT hB1 hB2 hB3 hB4 hB5 c0 c1 c2 d0 d1 d2 h hS hRt h2
  go_enter Tryz.func57, Tryz.ntmps57
  go_upto_region 1 with fail
  rw [← HW.out, ← HA.out]
  go_cut [6] (fun nv wx => nv = .bool NB ∧ Hid (Below W.heap.size W wx))
  case first =>
    go_wp2_with fail
    refine (K2.out _ (Below.refl _ _)).mono ?_
    rintro e w1 ⟨rfl, hb1⟩
    have HB1 := Lib.hid hb1
    clear hb1
    cases B2 with
    | true =>
      go_wp2_with fail
      go_meet
      exact ⟨by rw [HNB.out]; rfl, HB1⟩
    | false =>
      go_wp2_with fail
      refine (K3.out _ HB1.out).mono ?_
      rintro e w2 ⟨rfl, hb2⟩
      have HB2 := Lib.hid (HB1.out.trans (hb2.mono HB1.out.size))
      clear hb2 HB1
      go_wp2_with fail
      go_meet
      exact ⟨by rw [HNB.out]; rfl, HB2⟩
  case rest =>
  obtain ⟨rfl, HV1⟩ := hcut
  obtain ⟨v1, hv1⟩ : ∃ v1 : World, v1 = wc := ⟨_, rfl⟩
  rw [← hv1] at HV1 ⊢
  clear hv1
  go_upto_region 2 with fail
  go_cut [7, 8] (fun p7 p8 wx => RItem v1 P JT p7 p8 wx)
  case first =>
    obtain ⟨c0, c1, c2, d0, d1, d2⟩ := HCC.out _ HV1.out
    have hv1b : b < v1.heap.size := Nat.lt_of_lt_of_le HBLT.out HV1.out.size
    go_region_law (first
      | (go_simp; go_at_call 21; refine (HJN.out _ HV1.out.drew).mono ?_; rintro e w6 ⟨hb6, u, rfl, hui, hus, hue⟩;
         obtain ⟨a4, b4, k4⟩ := hui.nslice; obtain ⟨a5, b5, k5⟩ := hui.xslice;
         unfold Ty.agg; rw [k4, k5];
         have hn6 := Blk.new w6 36 #[.int .i64 0, .slice none 0 0, .slice none 0 0];
         have z0 := hn6.cell 0; have z1 := hn6.cell 1; have z2 := hn6.cell 2;
         have y0 := hn6.frozen 0; have y1 := hn6.frozen 1; have y2 := hn6.frozen 2;
         simp at z0 z1 z2;
         have HFIN := Lib.hid (ritem_new (wr := v1) ((Below.refl v1.heap.size v1).drew.trans hb6) k4 k5 hui hus hue);
         clear hn6 hb6 hui hus hue k4 k5)
      | (go_simp; go_at_call 21; refine (HJN.out _ (HV1.out.drew.alloc HV1.out.size _)).mono ?_; rintro e w6 ⟨hb6, u, rfl, hui, hus, hue⟩;
         obtain ⟨a4, b4, k4⟩ := hui.nslice; obtain ⟨a5, b5, k5⟩ := hui.xslice;
         unfold Ty.agg; rw [k4, k5];
         have hX6 : Blk w6 v1.heap.size 36 #[.int .i64 0, .slice none 0 0, .slice none 0 0] := (Blk.new v1.drew 36 _).below hb6 (by simp);
         have z0 := hX6.cell 0; have z1 := hX6.cell 1; have z2 := hX6.cell 2;
         have y0 := hX6.frozen 0; have y1 := hX6.frozen 1; have y2 := hX6.frozen 2;
         simp at z0 z1 z2;
         have HFIN := Lib.hid (ritem_set (wr := v1) (((Below.refl v1.heap.size v1).drew.alloc (Nat.le_refl _) _).trans (hb6.mono (by simp))) (Nat.le_refl _) hX6 k4 k5 hui (hus.mono (fun b hb => by
            have hz' : (v1.drew.alloc (.cells #[.int .i64 0, .slice none 0 0, .slice none 0 0] 36)).heap.size = v1.heap.size + 1 := by simp
            rcases hb with hb | hb
            · exact ⟨.inl hb, by have := HPP.out b hb; have := HV1.out.size; have := HBW.out.size; omega⟩
            · rw [hz'] at hb
              exact ⟨.inr (by omega), by omega⟩)) hue);
         clear hX6 hb6 hui hus hue k4 k5))
    all_goals (go_wp2_with fail)
    all_goals go_meet
    all_goals (first | exact HFIN.out)
  case rest =>
  obtain ⟨X, u, rfl, rfl, hbx, hbX, hui, hus, hue⟩ := hcut
  obtain ⟨v2, hv2⟩ : ∃ v2 : World, v2 = wc := ⟨_, rfl⟩
  rw [← hv2] at hbx hbX hui ⊢
  obtain ⟨a4, b4, k4⟩ := hui.nslice
  obtain ⟨a5, b5, k5⟩ := hui.xslice
  rw [k4, k5] at hbX
  have hV2 := HV1.out.trans (hbx.mono HV1.out.size)
  have hus2 : u.Sep (fun b => P b ∨ (w.heap.size ≤ b ∧ b ≠ A)) := hus.mono (fun b hb => by
    have := HV1.out.size
    have := HWS.out
    have := HA.out
    rcases hb with hb | hb
    · exact .inl hb
    · exact .inr (by omega))
  have HV2 := Lib.hid hV2; have HX := Lib.hid hbX; have HUI := Lib.hid hui; have HUS := Lib.hid hus2; have HUE := Lib.hid hue; have HK4 := Lib.hid k4; have HK5 := Lib.hid k5
  clear hv2 hV2 hbX hui hus2 hus hue k4 k5 hbx
  by_cases h5 : k = 5
  · subst h5
    cases NB with
    | true =>
      have HRN : Hid (R = .ok u.erase) := Lib.hid (by rw [HR.out]; simp [HUE.out])
      clear HR
      have hbR := HRB.out.below HV2.out HRB.out.lt
      have hbX := HX.out
      have r0 := hbR.cell 0; have r1 := hbR.cell 1; have r2 := hbR.cell 2
      have s0 := hbR.frozen 0; have s1 := hbR.frozen 1; have s2 := hbR.frozen 2
      have x0 := hbX.cell 0; have x1 := hbX.cell 1; have x2 := hbX.cell 2
      simp at r0 r1 r2 x0 x1 x2
      obtain ⟨WF, hWF⟩ : ∃ WF, WF = (((v2.setCell ⟨A, 0, none⟩ (.int .i64 u.k)).setCell ⟨A, 1, none⟩ (.slice a4 u.ns.length b4)).setCell ⟨A, 2, none⟩ (.slice a5 u.xs.length b5)) := ⟨_, rfl⟩
      have hres := res_storedR (w := w) (P := P) (by rw [← HA.out]; exact Nat.le_refl _) HPP.out (HBW.out.trans (HV2.out.mono HBW.out.size)) hbR HUI.out HUS.out HK4.out HK5.out hWF
      have HRES := Lib.hid hres; have HWF := Lib.hid hWF
      clear hres hWF hbR hbX
      go_wp2_with fail
      rw [← HWF.out]
      obtain ⟨hF, hJ⟩ := HRES.out
      have f0 := hF.cell 0; have f1 := hF.cell 1; have f2 := hF.cell 2
      simp at f0 f1 f2
      refine bodyPost_ret (v := .tuple #[.agg #[.int .i64 u.k, .slice a4 u.ns.length b4, .slice a5 u.xs.length b5], .int .i64 0]) (by simp [results, Tryz.results57, go_sem, f0, f1, f2]) rfl ?_
      rw [HRN.out]
      exact hJ
    | false =>
      go_wp2_with fail
      refine (K4.out _ HV2.out).mono ?_
      rintro e w6 ⟨rfl, hbn⟩
      have HB6 := Lib.hid hbn
      clear hbn
      cases B4 with
      | true =>
        have HRN : Hid (R = .ok u.erase) := Lib.hid (by rw [HR.out]; simp [HUE.out])
        clear HR
        have hbR := HRB.out.below (HV2.out.trans (HB6.out.mono HV2.out.size)) HRB.out.lt
        have hbX := HX.out.below HB6.out HX.out.lt
        have r0 := hbR.cell 0; have r1 := hbR.cell 1; have r2 := hbR.cell 2
        have s0 := hbR.frozen 0; have s1 := hbR.frozen 1; have s2 := hbR.frozen 2
        have x0 := hbX.cell 0; have x1 := hbX.cell 1; have x2 := hbX.cell 2
        simp at r0 r1 r2 x0 x1 x2
        obtain ⟨WF, hWF⟩ : ∃ WF, WF = (((w6.setCell ⟨A, 0, none⟩ (.int .i64 u.k)).setCell ⟨A, 1, none⟩ (.slice a4 u.ns.length b4)).setCell ⟨A, 2, none⟩ (.slice a5 u.xs.length b5)) := ⟨_, rfl⟩
        have hres := res_storedR (w := w) (P := P) (by rw [← HA.out]; exact Nat.le_refl _) HPP.out (HBW.out.trans ((HV2.out.trans (HB6.out.mono HV2.out.size)).mono HBW.out.size)) hbR (HUI.out.below HB6.out) HUS.out HK4.out HK5.out hWF
        have HRES := Lib.hid hres; have HWF := Lib.hid hWF
        clear hres hWF hbR hbX
        go_wp2_with fail
        rw [← HWF.out]
        obtain ⟨hF, hJ⟩ := HRES.out
        have f0 := hF.cell 0; have f1 := hF.cell 1; have f2 := hF.cell 2
        simp at f0 f1 f2
        refine bodyPost_ret (v := .tuple #[.agg #[.int .i64 u.k, .slice a4 u.ns.length b4, .slice a5 u.xs.length b5], .int .i64 0]) (by simp [results, Tryz.results57, go_sem, f0, f1, f2]) rfl ?_
        rw [HRN.out]
        exact hJ
      | false =>
        go_wp2_with fail
        refine (K5.out _ (HV2.out.trans (HB6.out.mono HV2.out.size))).mono ?_
        rintro e w7 ⟨rfl, hbn⟩
        have HB7 := Lib.hid (HB6.out.trans (hbn.mono HB6.out.size))
        clear hbn
        cases B5 with
        | true =>
          obtain ⟨JS, hJS⟩ : ∃ JS, JS = JT.isSome := ⟨_, rfl⟩
          rw [← hJS] at HR ⊢
          clear hJS
          cases JS with
          | true =>
            have HRN : Hid (R = .ok u.erase) := Lib.hid (by rw [HR.out]; simp [HUE.out])
            clear HR
            have hbR := HRB.out.below (HV2.out.trans (HB7.out.mono HV2.out.size)) HRB.out.lt
            have hbX := HX.out.below HB7.out HX.out.lt
            have r0 := hbR.cell 0; have r1 := hbR.cell 1; have r2 := hbR.cell 2
            have s0 := hbR.frozen 0; have s1 := hbR.frozen 1; have s2 := hbR.frozen 2
            have x0 := hbX.cell 0; have x1 := hbX.cell 1; have x2 := hbX.cell 2
            simp at r0 r1 r2 x0 x1 x2
            obtain ⟨WF, hWF⟩ : ∃ WF, WF = (((w7.setCell ⟨A, 0, none⟩ (.int .i64 u.k)).setCell ⟨A, 1, none⟩ (.slice a4 u.ns.length b4)).setCell ⟨A, 2, none⟩ (.slice a5 u.xs.length b5)) := ⟨_, rfl⟩
            have hres := res_storedR (w := w) (P := P) (by rw [← HA.out]; exact Nat.le_refl _) HPP.out (HBW.out.trans ((HV2.out.trans (HB7.out.mono HV2.out.size)).mono HBW.out.size)) hbR (HUI.out.below HB7.out) HUS.out HK4.out HK5.out hWF
            have HRES := Lib.hid hres; have HWF := Lib.hid hWF
            clear hres hWF hbR hbX
            go_wp2_with fail
            rw [← HWF.out]
            obtain ⟨hF, hJ⟩ := HRES.out
            have f0 := hF.cell 0; have f1 := hF.cell 1; have f2 := hF.cell 2
            simp at f0 f1 f2
            refine bodyPost_ret (v := .tuple #[.agg #[.int .i64 u.k, .slice a4 u.ns.length b4, .slice a5 u.xs.length b5], .int .i64 0]) (by simp [results, Tryz.results57, go_sem, f0, f1, f2]) rfl ?_
            rw [HRN.out]
            exact hJ
          | false =>
            have HRN : Hid (R = .error 6) := Lib.hid (by rw [HR.out]; simp [HUE.out])
            clear HR
            have hbR := HRB.out.below (HV2.out.trans (HB7.out.mono HV2.out.size)) HRB.out.lt
            have hbX := HX.out.below HB7.out HX.out.lt
            have r0 := hbR.cell 0; have r1 := hbR.cell 1; have r2 := hbR.cell 2
            have s0 := hbR.frozen 0; have s1 := hbR.frozen 1; have s2 := hbR.frozen 2
            have x0 := hbX.cell 0; have x1 := hbX.cell 1; have x2 := hbX.cell 2
            simp at r0 r1 r2 x0 x1 x2
            obtain ⟨WF, hWF⟩ : ∃ WF, WF = (((w7.setCell ⟨A, 0, none⟩ (.int .i64 0)).setCell ⟨A, 1, none⟩ (.slice none 0 0)).setCell ⟨A, 2, none⟩ (.slice none 0 0)) := ⟨_, rfl⟩
            have hres := err_storedR (w := w) (P := P) (k := 6) (by rw [← HA.out]; exact Nat.le_refl _) (HBW.out.trans ((HV2.out.trans (HB7.out.mono HV2.out.size)).mono HBW.out.size)) hbR hWF
            have HRES := Lib.hid hres; have HWF := Lib.hid hWF
            clear hres hWF hbR hbX
            go_wp2_with fail
            rw [← HWF.out]
            obtain ⟨hF, hJ⟩ := HRES.out
            have f0 := hF.cell 0; have f1 := hF.cell 1; have f2 := hF.cell 2
            simp at f0 f1 f2
            refine bodyPost_ret (v := .tuple #[.agg #[.int .i64 0, .slice none 0 0, .slice none 0 0], .int .i64 6]) (by simp [results, Tryz.results57, go_sem, f0, f1, f2]) rfl ?_
            rw [HRN.out]
            exact hJ
        | false =>
          have HRN : Hid (R = .error 6) := Lib.hid (by rw [HR.out]; simp [HUE.out])
          clear HR
          have hbR := HRB.out.below (HV2.out.trans (HB7.out.mono HV2.out.size)) HRB.out.lt
          have hbX := HX.out.below HB7.out HX.out.lt
          have r0 := hbR.cell 0; have r1 := hbR.cell 1; have r2 := hbR.cell 2
          have s0 := hbR.frozen 0; have s1 := hbR.frozen 1; have s2 := hbR.frozen 2
          have x0 := hbX.cell 0; have x1 := hbX.cell 1; have x2 := hbX.cell 2
          simp at r0 r1 r2 x0 x1 x2
          obtain ⟨WF, hWF⟩ : ∃ WF, WF = (((w7.setCell ⟨A, 0, none⟩ (.int .i64 0)).setCell ⟨A, 1, none⟩ (.slice none 0 0)).setCell ⟨A, 2, none⟩ (.slice none 0 0)) := ⟨_, rfl⟩
          have hres := err_storedR (w := w) (P := P) (k := 6) (by rw [← HA.out]; exact Nat.le_refl _) (HBW.out.trans ((HV2.out.trans (HB7.out.mono HV2.out.size)).mono HBW.out.size)) hbR hWF
          have HRES := Lib.hid hres; have HWF := Lib.hid hWF
          clear hres hWF hbR hbX
          go_wp2_with fail
          rw [← HWF.out]
          obtain ⟨hF, hJ⟩ := HRES.out
          have f0 := hF.cell 0; have f1 := hF.cell 1; have f2 := hF.cell 2
          simp at f0 f1 f2
          refine bodyPost_ret (v := .tuple #[.agg #[.int .i64 0, .slice none 0 0, .slice none 0 0], .int .i64 6]) (by simp [results, Tryz.results57, go_sem, f0, f1, f2]) rfl ?_
          rw [HRN.out]
          exact hJ
  by_cases h6 : k = 6
  · subst h6
    cases NB with
    | true =>
      have HRN : Hid (R = .ok u.erase) := Lib.hid (by rw [HR.out]; simp [HUE.out])
      clear HR
      have hbR := HRB.out.below HV2.out HRB.out.lt
      have hbX := HX.out
      have r0 := hbR.cell 0; have r1 := hbR.cell 1; have r2 := hbR.cell 2
      have s0 := hbR.frozen 0; have s1 := hbR.frozen 1; have s2 := hbR.frozen 2
      have x0 := hbX.cell 0; have x1 := hbX.cell 1; have x2 := hbX.cell 2
      simp at r0 r1 r2 x0 x1 x2
      obtain ⟨WF, hWF⟩ : ∃ WF, WF = (((v2.setCell ⟨A, 0, none⟩ (.int .i64 u.k)).setCell ⟨A, 1, none⟩ (.slice a4 u.ns.length b4)).setCell ⟨A, 2, none⟩ (.slice a5 u.xs.length b5)) := ⟨_, rfl⟩
      have hres := res_storedR (w := w) (P := P) (by rw [← HA.out]; exact Nat.le_refl _) HPP.out (HBW.out.trans (HV2.out.mono HBW.out.size)) hbR HUI.out HUS.out HK4.out HK5.out hWF
      have HRES := Lib.hid hres; have HWF := Lib.hid hWF
      clear hres hWF hbR hbX
      go_wp2_with fail
      rw [← HWF.out]
      obtain ⟨hF, hJ⟩ := HRES.out
      have f0 := hF.cell 0; have f1 := hF.cell 1; have f2 := hF.cell 2
      simp at f0 f1 f2
      refine bodyPost_ret (v := .tuple #[.agg #[.int .i64 u.k, .slice a4 u.ns.length b4, .slice a5 u.xs.length b5], .int .i64 0]) (by simp [results, Tryz.results57, go_sem, f0, f1, f2]) rfl ?_
      rw [HRN.out]
      exact hJ
    | false =>
      have HRN : Hid (R = .error 6) := Lib.hid (by rw [HR.out]; simp [HUE.out])
      clear HR
      have hbR := HRB.out.below HV2.out HRB.out.lt
      have hbX := HX.out
      have r0 := hbR.cell 0; have r1 := hbR.cell 1; have r2 := hbR.cell 2
      have s0 := hbR.frozen 0; have s1 := hbR.frozen 1; have s2 := hbR.frozen 2
      have x0 := hbX.cell 0; have x1 := hbX.cell 1; have x2 := hbX.cell 2
      simp at r0 r1 r2 x0 x1 x2
      obtain ⟨WF, hWF⟩ : ∃ WF, WF = (((v2.setCell ⟨A, 0, none⟩ (.int .i64 0)).setCell ⟨A, 1, none⟩ (.slice none 0 0)).setCell ⟨A, 2, none⟩ (.slice none 0 0)) := ⟨_, rfl⟩
      have hres := err_storedR (w := w) (P := P) (k := 6) (by rw [← HA.out]; exact Nat.le_refl _) (HBW.out.trans (HV2.out.mono HBW.out.size)) hbR hWF
      have HRES := Lib.hid hres; have HWF := Lib.hid hWF
      clear hres hWF hbR hbX
      go_wp2_with fail
      rw [← HWF.out]
      obtain ⟨hF, hJ⟩ := HRES.out
      have f0 := hF.cell 0; have f1 := hF.cell 1; have f2 := hF.cell 2
      simp at f0 f1 f2
      refine bodyPost_ret (v := .tuple #[.agg #[.int .i64 0, .slice none 0 0, .slice none 0 0], .int .i64 6]) (by simp [results, Tryz.results57, go_sem, f0, f1, f2]) rfl ?_
      rw [HRN.out]
      exact hJ
  by_cases h7 : k = 7
  · subst h7
    cases NB with
    | true =>
      have HRN : Hid (R = .ok u.erase) := Lib.hid (by rw [HR.out]; simp [HUE.out])
      clear HR
      have hbR := HRB.out.below HV2.out HRB.out.lt
      have hbX := HX.out
      have r0 := hbR.cell 0; have r1 := hbR.cell 1; have r2 := hbR.cell 2
      have s0 := hbR.frozen 0; have s1 := hbR.frozen 1; have s2 := hbR.frozen 2
      have x0 := hbX.cell 0; have x1 := hbX.cell 1; have x2 := hbX.cell 2
      simp at r0 r1 r2 x0 x1 x2
      obtain ⟨WF, hWF⟩ : ∃ WF, WF = (((v2.setCell ⟨A, 0, none⟩ (.int .i64 u.k)).setCell ⟨A, 1, none⟩ (.slice a4 u.ns.length b4)).setCell ⟨A, 2, none⟩ (.slice a5 u.xs.length b5)) := ⟨_, rfl⟩
      have hres := res_storedR (w := w) (P := P) (by rw [← HA.out]; exact Nat.le_refl _) HPP.out (HBW.out.trans (HV2.out.mono HBW.out.size)) hbR HUI.out HUS.out HK4.out HK5.out hWF
      have HRES := Lib.hid hres; have HWF := Lib.hid hWF
      clear hres hWF hbR hbX
      go_wp2_with fail
      rw [← HWF.out]
      obtain ⟨hF, hJ⟩ := HRES.out
      have f0 := hF.cell 0; have f1 := hF.cell 1; have f2 := hF.cell 2
      simp at f0 f1 f2
      refine bodyPost_ret (v := .tuple #[.agg #[.int .i64 u.k, .slice a4 u.ns.length b4, .slice a5 u.xs.length b5], .int .i64 0]) (by simp [results, Tryz.results57, go_sem, f0, f1, f2]) rfl ?_
      rw [HRN.out]
      exact hJ
    | false =>
      have HRN : Hid (R = .error 6) := Lib.hid (by rw [HR.out]; simp [HUE.out])
      clear HR
      have hbR := HRB.out.below HV2.out HRB.out.lt
      have hbX := HX.out
      have r0 := hbR.cell 0; have r1 := hbR.cell 1; have r2 := hbR.cell 2
      have s0 := hbR.frozen 0; have s1 := hbR.frozen 1; have s2 := hbR.frozen 2
      have x0 := hbX.cell 0; have x1 := hbX.cell 1; have x2 := hbX.cell 2
      simp at r0 r1 r2 x0 x1 x2
      obtain ⟨WF, hWF⟩ : ∃ WF, WF = (((v2.setCell ⟨A, 0, none⟩ (.int .i64 0)).setCell ⟨A, 1, none⟩ (.slice none 0 0)).setCell ⟨A, 2, none⟩ (.slice none 0 0)) := ⟨_, rfl⟩
      have hres := err_storedR (w := w) (P := P) (k := 6) (by rw [← HA.out]; exact Nat.le_refl _) (HBW.out.trans (HV2.out.mono HBW.out.size)) hbR hWF
      have HRES := Lib.hid hres; have HWF := Lib.hid hWF
      clear hres hWF hbR hbX
      go_wp2_with fail
      rw [← HWF.out]
      obtain ⟨hF, hJ⟩ := HRES.out
      have f0 := hF.cell 0; have f1 := hF.cell 1; have f2 := hF.cell 2
      simp at f0 f1 f2
      refine bodyPost_ret (v := .tuple #[.agg #[.int .i64 0, .slice none 0 0, .slice none 0 0], .int .i64 6]) (by simp [results, Tryz.results57, go_sem, f0, f1, f2]) rfl ?_
      rw [HRN.out]
      exact hJ
  by_cases h8 : k = 8
  · subst h8
    cases NB with
    | true =>
      have HRN : Hid (R = .ok u.erase) := Lib.hid (by rw [HR.out]; simp [HUE.out])
      clear HR
      have hbR := HRB.out.below HV2.out HRB.out.lt
      have hbX := HX.out
      have r0 := hbR.cell 0; have r1 := hbR.cell 1; have r2 := hbR.cell 2
      have s0 := hbR.frozen 0; have s1 := hbR.frozen 1; have s2 := hbR.frozen 2
      have x0 := hbX.cell 0; have x1 := hbX.cell 1; have x2 := hbX.cell 2
      simp at r0 r1 r2 x0 x1 x2
      obtain ⟨WF, hWF⟩ : ∃ WF, WF = (((v2.setCell ⟨A, 0, none⟩ (.int .i64 u.k)).setCell ⟨A, 1, none⟩ (.slice a4 u.ns.length b4)).setCell ⟨A, 2, none⟩ (.slice a5 u.xs.length b5)) := ⟨_, rfl⟩
      have hres := res_storedR (w := w) (P := P) (by rw [← HA.out]; exact Nat.le_refl _) HPP.out (HBW.out.trans (HV2.out.mono HBW.out.size)) hbR HUI.out HUS.out HK4.out HK5.out hWF
      have HRES := Lib.hid hres; have HWF := Lib.hid hWF
      clear hres hWF hbR hbX
      go_wp2_with fail
      rw [← HWF.out]
      obtain ⟨hF, hJ⟩ := HRES.out
      have f0 := hF.cell 0; have f1 := hF.cell 1; have f2 := hF.cell 2
      simp at f0 f1 f2
      refine bodyPost_ret (v := .tuple #[.agg #[.int .i64 u.k, .slice a4 u.ns.length b4, .slice a5 u.xs.length b5], .int .i64 0]) (by simp [results, Tryz.results57, go_sem, f0, f1, f2]) rfl ?_
      rw [HRN.out]
      exact hJ
    | false =>
      have HRN : Hid (R = .error 6) := Lib.hid (by rw [HR.out]; simp [HUE.out])
      clear HR
      have hbR := HRB.out.below HV2.out HRB.out.lt
      have hbX := HX.out
      have r0 := hbR.cell 0; have r1 := hbR.cell 1; have r2 := hbR.cell 2
      have s0 := hbR.frozen 0; have s1 := hbR.frozen 1; have s2 := hbR.frozen 2
      have x0 := hbX.cell 0; have x1 := hbX.cell 1; have x2 := hbX.cell 2
      simp at r0 r1 r2 x0 x1 x2
      obtain ⟨WF, hWF⟩ : ∃ WF, WF = (((v2.setCell ⟨A, 0, none⟩ (.int .i64 0)).setCell ⟨A, 1, none⟩ (.slice none 0 0)).setCell ⟨A, 2, none⟩ (.slice none 0 0)) := ⟨_, rfl⟩
      have hres := err_storedR (w := w) (P := P) (k := 6) (by rw [← HA.out]; exact Nat.le_refl _) (HBW.out.trans (HV2.out.mono HBW.out.size)) hbR hWF
      have HRES := Lib.hid hres; have HWF := Lib.hid hWF
      clear hres hWF hbR hbX
      go_wp2_with fail
      rw [← HWF.out]
      obtain ⟨hF, hJ⟩ := HRES.out
      have f0 := hF.cell 0; have f1 := hF.cell 1; have f2 := hF.cell 2
      simp at f0 f1 f2
      refine bodyPost_ret (v := .tuple #[.agg #[.int .i64 0, .slice none 0 0, .slice none 0 0], .int .i64 6]) (by simp [results, Tryz.results57, go_sem, f0, f1, f2]) rfl ?_
      rw [HRN.out]
      exact hJ
  by_cases h9 : k = 9
  · subst h9
    go_wp2_with fail
    refine (K2.out _ HV2.out).mono ?_
    rintro e w4 ⟨rfl, hbn⟩
    have HB4 := Lib.hid hbn
    clear hbn
    cases B2 with
    | true =>
      have HRN : Hid (R = .ok u.erase) := Lib.hid (by rw [HR.out]; simp [HUE.out])
      clear HR
      have hbR := HRB.out.below (HV2.out.trans (HB4.out.mono HV2.out.size)) HRB.out.lt
      have hbX := HX.out.below HB4.out HX.out.lt
      have r0 := hbR.cell 0; have r1 := hbR.cell 1; have r2 := hbR.cell 2
      have s0 := hbR.frozen 0; have s1 := hbR.frozen 1; have s2 := hbR.frozen 2
      have x0 := hbX.cell 0; have x1 := hbX.cell 1; have x2 := hbX.cell 2
      simp at r0 r1 r2 x0 x1 x2
      obtain ⟨WF, hWF⟩ : ∃ WF, WF = (((w4.setCell ⟨A, 0, none⟩ (.int .i64 u.k)).setCell ⟨A, 1, none⟩ (.slice a4 u.ns.length b4)).setCell ⟨A, 2, none⟩ (.slice a5 u.xs.length b5)) := ⟨_, rfl⟩
      have hres := res_storedR (w := w) (P := P) (by rw [← HA.out]; exact Nat.le_refl _) HPP.out (HBW.out.trans ((HV2.out.trans (HB4.out.mono HV2.out.size)).mono HBW.out.size)) hbR (HUI.out.below HB4.out) HUS.out HK4.out HK5.out hWF
      have HRES := Lib.hid hres; have HWF := Lib.hid hWF
      clear hres hWF hbR hbX
      go_wp2_with fail
      rw [← HWF.out]
      obtain ⟨hF, hJ⟩ := HRES.out
      have f0 := hF.cell 0; have f1 := hF.cell 1; have f2 := hF.cell 2
      simp at f0 f1 f2
      refine bodyPost_ret (v := .tuple #[.agg #[.int .i64 u.k, .slice a4 u.ns.length b4, .slice a5 u.xs.length b5], .int .i64 0]) (by simp [results, Tryz.results57, go_sem, f0, f1, f2]) rfl ?_
      rw [HRN.out]
      exact hJ
    | false =>
      have HRN : Hid (R = .error 6) := Lib.hid (by rw [HR.out]; simp [HUE.out])
      clear HR
      have hbR := HRB.out.below (HV2.out.trans (HB4.out.mono HV2.out.size)) HRB.out.lt
      have hbX := HX.out.below HB4.out HX.out.lt
      have r0 := hbR.cell 0; have r1 := hbR.cell 1; have r2 := hbR.cell 2
      have s0 := hbR.frozen 0; have s1 := hbR.frozen 1; have s2 := hbR.frozen 2
      have x0 := hbX.cell 0; have x1 := hbX.cell 1; have x2 := hbX.cell 2
      simp at r0 r1 r2 x0 x1 x2
      obtain ⟨WF, hWF⟩ : ∃ WF, WF = (((w4.setCell ⟨A, 0, none⟩ (.int .i64 0)).setCell ⟨A, 1, none⟩ (.slice none 0 0)).setCell ⟨A, 2, none⟩ (.slice none 0 0)) := ⟨_, rfl⟩
      have hres := err_storedR (w := w) (P := P) (k := 6) (by rw [← HA.out]; exact Nat.le_refl _) (HBW.out.trans ((HV2.out.trans (HB4.out.mono HV2.out.size)).mono HBW.out.size)) hbR hWF
      have HRES := Lib.hid hres; have HWF := Lib.hid hWF
      clear hres hWF hbR hbX
      go_wp2_with fail
      rw [← HWF.out]
      obtain ⟨hF, hJ⟩ := HRES.out
      have f0 := hF.cell 0; have f1 := hF.cell 1; have f2 := hF.cell 2
      simp at f0 f1 f2
      refine bodyPost_ret (v := .tuple #[.agg #[.int .i64 0, .slice none 0 0, .slice none 0 0], .int .i64 6]) (by simp [results, Tryz.results57, go_sem, f0, f1, f2]) rfl ?_
      rw [HRN.out]
      exact hJ
  by_cases h10 : k = 10
  · subst h10
    obtain ⟨JS, hJS⟩ : ∃ JS, JS = JT.isSome := ⟨_, rfl⟩
    rw [← hJS] at HR ⊢
    clear hJS
    cases JS with
    | true =>
      have HRN : Hid (R = .ok (Ty.of 1)) := Lib.hid (by rw [HR.out]; simp [HUE.out])
      clear HR
      go_wp2_with fail
      refine (rplain_any 1 v2).mono ?_
      rintro e w9 ⟨rfl, hb9⟩
      have HB9 := Lib.hid hb9
      clear hb9
      have hbR := HRB.out.below (HV2.out.trans (HB9.out.mono HV2.out.size)) HRB.out.lt
      have hbX := HX.out.below HB9.out HX.out.lt
      have r0 := hbR.cell 0; have r1 := hbR.cell 1; have r2 := hbR.cell 2
      have s0 := hbR.frozen 0; have s1 := hbR.frozen 1; have s2 := hbR.frozen 2
      have x0 := hbX.cell 0; have x1 := hbX.cell 1; have x2 := hbX.cell 2
      simp at r0 r1 r2 x0 x1 x2
      obtain ⟨WF, hWF⟩ : ∃ WF, WF = (((w9.setCell ⟨A, 0, none⟩ (.int .i64 1)).setCell ⟨A, 1, none⟩ (.slice none 0 0)).setCell ⟨A, 2, none⟩ (.slice none 0 0)) := ⟨_, rfl⟩
      have hres := res_storedR (u := Ty.of 1) (k4 := none) (k5 := none) (l4 := 0) (l5 := 0) (w := w) (P := P) (by rw [← HA.out]; exact Nat.le_refl _) HPP.out (HBW.out.trans ((HV2.out.trans (HB9.out.mono HV2.out.size)).mono HBW.out.size)) hbR (of_in 1 (by unfold i64r; decide) _) (of_sep _ _) rfl rfl hWF
      have HRES := Lib.hid hres; have HWF := Lib.hid hWF
      clear hres hWF hbR hbX
      go_wp2_with fail
      rw [← HWF.out]
      obtain ⟨hF, hJ⟩ := HRES.out
      have f0 := hF.cell 0; have f1 := hF.cell 1; have f2 := hF.cell 2
      simp [Ty.of, Ty.k, Ty.ns, Ty.xs] at f0 f1 f2
      refine bodyPost_ret (v := .tuple #[.agg #[.int .i64 1, .slice none 0 0, .slice none 0 0], .int .i64 0]) (by simp [results, Tryz.results57, go_sem, f0, f1, f2]) rfl ?_
      rw [HRN.out]
      exact hJ
    | false =>
      have HRN : Hid (R = .error 6) := Lib.hid (by rw [HR.out]; simp [HUE.out])
      clear HR
      have hbR := HRB.out.below HV2.out HRB.out.lt
      have hbX := HX.out
      have r0 := hbR.cell 0; have r1 := hbR.cell 1; have r2 := hbR.cell 2
      have s0 := hbR.frozen 0; have s1 := hbR.frozen 1; have s2 := hbR.frozen 2
      have x0 := hbX.cell 0; have x1 := hbX.cell 1; have x2 := hbX.cell 2
      simp at r0 r1 r2 x0 x1 x2
      obtain ⟨WF, hWF⟩ : ∃ WF, WF = (((v2.setCell ⟨A, 0, none⟩ (.int .i64 0)).setCell ⟨A, 1, none⟩ (.slice none 0 0)).setCell ⟨A, 2, none⟩ (.slice none 0 0)) := ⟨_, rfl⟩
      have hres := err_storedR (w := w) (P := P) (k := 6) (by rw [← HA.out]; exact Nat.le_refl _) (HBW.out.trans (HV2.out.mono HBW.out.size)) hbR hWF
      have HRES := Lib.hid hres; have HWF := Lib.hid hWF
      clear hres hWF hbR hbX
      go_wp2_with fail
      rw [← HWF.out]
      obtain ⟨hF, hJ⟩ := HRES.out
      have f0 := hF.cell 0; have f1 := hF.cell 1; have f2 := hF.cell 2
      simp at f0 f1 f2
      refine bodyPost_ret (v := .tuple #[.agg #[.int .i64 0, .slice none 0 0, .slice none 0 0], .int .i64 6]) (by simp [results, Tryz.results57, go_sem, f0, f1, f2]) rfl ?_
      rw [HRN.out]
      exact hJ
  by_cases h11 : k = 11
  · subst h11
    cases NB with
    | true =>
      have HRN : Hid (R = .ok (Ty.of 1)) := Lib.hid (by rw [HR.out]; simp [HUE.out])
      clear HR
      go_wp2_with fail
      refine (rplain_any 1 v2).mono ?_
      rintro e w9 ⟨rfl, hb9⟩
      have HB9 := Lib.hid hb9
      clear hb9
      have hbR := HRB.out.below (HV2.out.trans (HB9.out.mono HV2.out.size)) HRB.out.lt
      have hbX := HX.out.below HB9.out HX.out.lt
      have r0 := hbR.cell 0; have r1 := hbR.cell 1; have r2 := hbR.cell 2
      have s0 := hbR.frozen 0; have s1 := hbR.frozen 1; have s2 := hbR.frozen 2
      have x0 := hbX.cell 0; have x1 := hbX.cell 1; have x2 := hbX.cell 2
      simp at r0 r1 r2 x0 x1 x2
      obtain ⟨WF, hWF⟩ : ∃ WF, WF = (((w9.setCell ⟨A, 0, none⟩ (.int .i64 1)).setCell ⟨A, 1, none⟩ (.slice none 0 0)).setCell ⟨A, 2, none⟩ (.slice none 0 0)) := ⟨_, rfl⟩
      have hres := res_storedR (u := Ty.of 1) (k4 := none) (k5 := none) (l4 := 0) (l5 := 0) (w := w) (P := P) (by rw [← HA.out]; exact Nat.le_refl _) HPP.out (HBW.out.trans ((HV2.out.trans (HB9.out.mono HV2.out.size)).mono HBW.out.size)) hbR (of_in 1 (by unfold i64r; decide) _) (of_sep _ _) rfl rfl hWF
      have HRES := Lib.hid hres; have HWF := Lib.hid hWF
      clear hres hWF hbR hbX
      go_wp2_with fail
      rw [← HWF.out]
      obtain ⟨hF, hJ⟩ := HRES.out
      have f0 := hF.cell 0; have f1 := hF.cell 1; have f2 := hF.cell 2
      simp [Ty.of, Ty.k, Ty.ns, Ty.xs] at f0 f1 f2
      refine bodyPost_ret (v := .tuple #[.agg #[.int .i64 1, .slice none 0 0, .slice none 0 0], .int .i64 0]) (by simp [results, Tryz.results57, go_sem, f0, f1, f2]) rfl ?_
      rw [HRN.out]
      exact hJ
    | false =>
      go_wp2_with fail
      refine (K4.out _ HV2.out).mono ?_
      rintro e w6 ⟨rfl, hbn⟩
      have HB6 := Lib.hid hbn
      clear hbn
      cases B4 with
      | true =>
        have HRN : Hid (R = .ok (Ty.of 1)) := Lib.hid (by rw [HR.out]; simp [HUE.out])
        clear HR
        go_wp2_with fail
        refine (rplain_any 1 w6).mono ?_
        rintro e w9 ⟨rfl, hb9⟩
        have HB9 := Lib.hid (HB6.out.trans (hb9.mono HB6.out.size))
        clear hb9
        have hbR := HRB.out.below (HV2.out.trans (HB9.out.mono HV2.out.size)) HRB.out.lt
        have hbX := HX.out.below HB9.out HX.out.lt
        have r0 := hbR.cell 0; have r1 := hbR.cell 1; have r2 := hbR.cell 2
        have s0 := hbR.frozen 0; have s1 := hbR.frozen 1; have s2 := hbR.frozen 2
        have x0 := hbX.cell 0; have x1 := hbX.cell 1; have x2 := hbX.cell 2
        simp at r0 r1 r2 x0 x1 x2
        obtain ⟨WF, hWF⟩ : ∃ WF, WF = (((w9.setCell ⟨A, 0, none⟩ (.int .i64 1)).setCell ⟨A, 1, none⟩ (.slice none 0 0)).setCell ⟨A, 2, none⟩ (.slice none 0 0)) := ⟨_, rfl⟩
        have hres := res_storedR (u := Ty.of 1) (k4 := none) (k5 := none) (l4 := 0) (l5 := 0) (w := w) (P := P) (by rw [← HA.out]; exact Nat.le_refl _) HPP.out (HBW.out.trans ((HV2.out.trans (HB9.out.mono HV2.out.size)).mono HBW.out.size)) hbR (of_in 1 (by unfold i64r; decide) _) (of_sep _ _) rfl rfl hWF
        have HRES := Lib.hid hres; have HWF := Lib.hid hWF
        clear hres hWF hbR hbX
        go_wp2_with fail
        rw [← HWF.out]
        obtain ⟨hF, hJ⟩ := HRES.out
        have f0 := hF.cell 0; have f1 := hF.cell 1; have f2 := hF.cell 2
        simp [Ty.of, Ty.k, Ty.ns, Ty.xs] at f0 f1 f2
        refine bodyPost_ret (v := .tuple #[.agg #[.int .i64 1, .slice none 0 0, .slice none 0 0], .int .i64 0]) (by simp [results, Tryz.results57, go_sem, f0, f1, f2]) rfl ?_
        rw [HRN.out]
        exact hJ
      | false =>
        have HRN : Hid (R = .error 6) := Lib.hid (by rw [HR.out]; simp [HUE.out])
        clear HR
        have hbR := HRB.out.below (HV2.out.trans (HB6.out.mono HV2.out.size)) HRB.out.lt
        have hbX := HX.out.below HB6.out HX.out.lt
        have r0 := hbR.cell 0; have r1 := hbR.cell 1; have r2 := hbR.cell 2
        have s0 := hbR.frozen 0; have s1 := hbR.frozen 1; have s2 := hbR.frozen 2
        have x0 := hbX.cell 0; have x1 := hbX.cell 1; have x2 := hbX.cell 2
        simp at r0 r1 r2 x0 x1 x2
        obtain ⟨WF, hWF⟩ : ∃ WF, WF = (((w6.setCell ⟨A, 0, none⟩ (.int .i64 0)).setCell ⟨A, 1, none⟩ (.slice none 0 0)).setCell ⟨A, 2, none⟩ (.slice none 0 0)) := ⟨_, rfl⟩
        have hres := err_storedR (w := w) (P := P) (k := 6) (by rw [← HA.out]; exact Nat.le_refl _) (HBW.out.trans ((HV2.out.trans (HB6.out.mono HV2.out.size)).mono HBW.out.size)) hbR hWF
        have HRES := Lib.hid hres; have HWF := Lib.hid hWF
        clear hres hWF hbR hbX
        go_wp2_with fail
        rw [← HWF.out]
        obtain ⟨hF, hJ⟩ := HRES.out
        have f0 := hF.cell 0; have f1 := hF.cell 1; have f2 := hF.cell 2
        simp at f0 f1 f2
        refine bodyPost_ret (v := .tuple #[.agg #[.int .i64 0, .slice none 0 0, .slice none 0 0], .int .i64 6]) (by simp [results, Tryz.results57, go_sem, f0, f1, f2]) rfl ?_
        rw [HRN.out]
        exact hJ
  by_cases h12 : k = 12
  · subst h12
    cases NB with
    | true =>
      have HRN : Hid (R = .ok (Ty.of 1)) := Lib.hid (by rw [HR.out]; simp [HUE.out])
      clear HR
      go_wp2_with fail
      refine (rplain_any 1 v2).mono ?_
      rintro e w9 ⟨rfl, hb9⟩
      have HB9 := Lib.hid hb9
      clear hb9
      have hbR := HRB.out.below (HV2.out.trans (HB9.out.mono HV2.out.size)) HRB.out.lt
      have hbX := HX.out.below HB9.out HX.out.lt
      have r0 := hbR.cell 0; have r1 := hbR.cell 1; have r2 := hbR.cell 2
      have s0 := hbR.frozen 0; have s1 := hbR.frozen 1; have s2 := hbR.frozen 2
      have x0 := hbX.cell 0; have x1 := hbX.cell 1; have x2 := hbX.cell 2
      simp at r0 r1 r2 x0 x1 x2
      obtain ⟨WF, hWF⟩ : ∃ WF, WF = (((w9.setCell ⟨A, 0, none⟩ (.int .i64 1)).setCell ⟨A, 1, none⟩ (.slice none 0 0)).setCell ⟨A, 2, none⟩ (.slice none 0 0)) := ⟨_, rfl⟩
      have hres := res_storedR (u := Ty.of 1) (k4 := none) (k5 := none) (l4 := 0) (l5 := 0) (w := w) (P := P) (by rw [← HA.out]; exact Nat.le_refl _) HPP.out (HBW.out.trans ((HV2.out.trans (HB9.out.mono HV2.out.size)).mono HBW.out.size)) hbR (of_in 1 (by unfold i64r; decide) _) (of_sep _ _) rfl rfl hWF
      have HRES := Lib.hid hres; have HWF := Lib.hid hWF
      clear hres hWF hbR hbX
      go_wp2_with fail
      rw [← HWF.out]
      obtain ⟨hF, hJ⟩ := HRES.out
      have f0 := hF.cell 0; have f1 := hF.cell 1; have f2 := hF.cell 2
      simp [Ty.of, Ty.k, Ty.ns, Ty.xs] at f0 f1 f2
      refine bodyPost_ret (v := .tuple #[.agg #[.int .i64 1, .slice none 0 0, .slice none 0 0], .int .i64 0]) (by simp [results, Tryz.results57, go_sem, f0, f1, f2]) rfl ?_
      rw [HRN.out]
      exact hJ
    | false =>
      go_wp2_with fail
      refine (K4.out _ HV2.out).mono ?_
      rintro e w6 ⟨rfl, hbn⟩
      have HB6 := Lib.hid hbn
      clear hbn
      cases B4 with
      | true =>
        have HRN : Hid (R = .ok (Ty.of 1)) := Lib.hid (by rw [HR.out]; simp [HUE.out])
        clear HR
        go_wp2_with fail
        refine (rplain_any 1 w6).mono ?_
        rintro e w9 ⟨rfl, hb9⟩
        have HB9 := Lib.hid (HB6.out.trans (hb9.mono HB6.out.size))
        clear hb9
        have hbR := HRB.out.below (HV2.out.trans (HB9.out.mono HV2.out.size)) HRB.out.lt
        have hbX := HX.out.below HB9.out HX.out.lt
        have r0 := hbR.cell 0; have r1 := hbR.cell 1; have r2 := hbR.cell 2
        have s0 := hbR.frozen 0; have s1 := hbR.frozen 1; have s2 := hbR.frozen 2
        have x0 := hbX.cell 0; have x1 := hbX.cell 1; have x2 := hbX.cell 2
        simp at r0 r1 r2 x0 x1 x2
        obtain ⟨WF, hWF⟩ : ∃ WF, WF = (((w9.setCell ⟨A, 0, none⟩ (.int .i64 1)).setCell ⟨A, 1, none⟩ (.slice none 0 0)).setCell ⟨A, 2, none⟩ (.slice none 0 0)) := ⟨_, rfl⟩
        have hres := res_storedR (u := Ty.of 1) (k4 := none) (k5 := none) (l4 := 0) (l5 := 0) (w := w) (P := P) (by rw [← HA.out]; exact Nat.le_refl _) HPP.out (HBW.out.trans ((HV2.out.trans (HB9.out.mono HV2.out.size)).mono HBW.out.size)) hbR (of_in 1 (by unfold i64r; decide) _) (of_sep _ _) rfl rfl hWF
        have HRES := Lib.hid hres; have HWF := Lib.hid hWF
        clear hres hWF hbR hbX
        go_wp2_with fail
        rw [← HWF.out]
        obtain ⟨hF, hJ⟩ := HRES.out
        have f0 := hF.cell 0; have f1 := hF.cell 1; have f2 := hF.cell 2
        simp [Ty.of, Ty.k, Ty.ns, Ty.xs] at f0 f1 f2
        refine bodyPost_ret (v := .tuple #[.agg #[.int .i64 1, .slice none 0 0, .slice none 0 0], .int .i64 0]) (by simp [results, Tryz.results57, go_sem, f0, f1, f2]) rfl ?_
        rw [HRN.out]
        exact hJ
      | false =>
        have HRN : Hid (R = .error 6) := Lib.hid (by rw [HR.out]; simp [HUE.out])
        clear HR
        have hbR := HRB.out.below (HV2.out.trans (HB6.out.mono HV2.out.size)) HRB.out.lt
        have hbX := HX.out.below HB6.out HX.out.lt
        have r0 := hbR.cell 0; have r1 := hbR.cell 1; have r2 := hbR.cell 2
        have s0 := hbR.frozen 0; have s1 := hbR.frozen 1; have s2 := hbR.frozen 2
        have x0 := hbX.cell 0; have x1 := hbX.cell 1; have x2 := hbX.cell 2
        simp at r0 r1 r2 x0 x1 x2
        obtain ⟨WF, hWF⟩ : ∃ WF, WF = (((w6.setCell ⟨A, 0, none⟩ (.int .i64 0)).setCell ⟨A, 1, none⟩ (.slice none 0 0)).setCell ⟨A, 2, none⟩ (.slice none 0 0)) := ⟨_, rfl⟩
        have hres := err_storedR (w := w) (P := P) (k := 6) (by rw [← HA.out]; exact Nat.le_refl _) (HBW.out.trans ((HV2.out.trans (HB6.out.mono HV2.out.size)).mono HBW.out.size)) hbR hWF
        have HRES := Lib.hid hres; have HWF := Lib.hid hWF
        clear hres hWF hbR hbX
        go_wp2_with fail
        rw [← HWF.out]
        obtain ⟨hF, hJ⟩ := HRES.out
        have f0 := hF.cell 0; have f1 := hF.cell 1; have f2 := hF.cell 2
        simp at f0 f1 f2
        refine bodyPost_ret (v := .tuple #[.agg #[.int .i64 0, .slice none 0 0, .slice none 0 0], .int .i64 6]) (by simp [results, Tryz.results57, go_sem, f0, f1, f2]) rfl ?_
        rw [HRN.out]
        exact hJ
  by_cases h13 : k = 13
  · subst h13
    go_wp2_with fail
    refine (K1.out _ HV2.out).mono ?_
    rintro e w3 ⟨rfl, hbn⟩
    have HB3 := Lib.hid hbn
    clear hbn
    cases B1 with
    | true =>
      have HRN : Hid (R = .ok (Ty.of 1)) := Lib.hid (by rw [HR.out]; simp [HUE.out])
      clear HR
      go_wp2_with fail
      refine (rplain_any 1 w3).mono ?_
      rintro e w9 ⟨rfl, hb9⟩
      have HB9 := Lib.hid (HB3.out.trans (hb9.mono HB3.out.size))
      clear hb9
      have hbR := HRB.out.below (HV2.out.trans (HB9.out.mono HV2.out.size)) HRB.out.lt
      have hbX := HX.out.below HB9.out HX.out.lt
      have r0 := hbR.cell 0; have r1 := hbR.cell 1; have r2 := hbR.cell 2
      have s0 := hbR.frozen 0; have s1 := hbR.frozen 1; have s2 := hbR.frozen 2
      have x0 := hbX.cell 0; have x1 := hbX.cell 1; have x2 := hbX.cell 2
      simp at r0 r1 r2 x0 x1 x2
      obtain ⟨WF, hWF⟩ : ∃ WF, WF = (((w9.setCell ⟨A, 0, none⟩ (.int .i64 1)).setCell ⟨A, 1, none⟩ (.slice none 0 0)).setCell ⟨A, 2, none⟩ (.slice none 0 0)) := ⟨_, rfl⟩
      have hres := res_storedR (u := Ty.of 1) (k4 := none) (k5 := none) (l4 := 0) (l5 := 0) (w := w) (P := P) (by rw [← HA.out]; exact Nat.le_refl _) HPP.out (HBW.out.trans ((HV2.out.trans (HB9.out.mono HV2.out.size)).mono HBW.out.size)) hbR (of_in 1 (by unfold i64r; decide) _) (of_sep _ _) rfl rfl hWF
      have HRES := Lib.hid hres; have HWF := Lib.hid hWF
      clear hres hWF hbR hbX
      go_wp2_with fail
      rw [← HWF.out]
      obtain ⟨hF, hJ⟩ := HRES.out
      have f0 := hF.cell 0; have f1 := hF.cell 1; have f2 := hF.cell 2
      simp [Ty.of, Ty.k, Ty.ns, Ty.xs] at f0 f1 f2
      refine bodyPost_ret (v := .tuple #[.agg #[.int .i64 1, .slice none 0 0, .slice none 0 0], .int .i64 0]) (by simp [results, Tryz.results57, go_sem, f0, f1, f2]) rfl ?_
      rw [HRN.out]
      exact hJ
    | false =>
      have HRN : Hid (R = .error 6) := Lib.hid (by rw [HR.out]; simp [HUE.out])
      clear HR
      have hbR := HRB.out.below (HV2.out.trans (HB3.out.mono HV2.out.size)) HRB.out.lt
      have hbX := HX.out.below HB3.out HX.out.lt
      have r0 := hbR.cell 0; have r1 := hbR.cell 1; have r2 := hbR.cell 2
      have s0 := hbR.frozen 0; have s1 := hbR.frozen 1; have s2 := hbR.frozen 2
      have x0 := hbX.cell 0; have x1 := hbX.cell 1; have x2 := hbX.cell 2
      simp at r0 r1 r2 x0 x1 x2
      obtain ⟨WF, hWF⟩ : ∃ WF, WF = (((w3.setCell ⟨A, 0, none⟩ (.int .i64 0)).setCell ⟨A, 1, none⟩ (.slice none 0 0)).setCell ⟨A, 2, none⟩ (.slice none 0 0)) := ⟨_, rfl⟩
      have hres := err_storedR (w := w) (P := P) (k := 6) (by rw [← HA.out]; exact Nat.le_refl _) (HBW.out.trans ((HV2.out.trans (HB3.out.mono HV2.out.size)).mono HBW.out.size)) hbR hWF
      have HRES := Lib.hid hres; have HWF := Lib.hid hWF
      clear hres hWF hbR hbX
      go_wp2_with fail
      rw [← HWF.out]
      obtain ⟨hF, hJ⟩ := HRES.out
      have f0 := hF.cell 0; have f1 := hF.cell 1; have f2 := hF.cell 2
      simp at f0 f1 f2
      refine bodyPost_ret (v := .tuple #[.agg #[.int .i64 0, .slice none 0 0, .slice none 0 0], .int .i64 6]) (by simp [results, Tryz.results57, go_sem, f0, f1, f2]) rfl ?_
      rw [HRN.out]
      exact hJ
  by_cases h14 : k = 14
  · subst h14
    go_wp2_with fail
    refine (K1.out _ HV2.out).mono ?_
    rintro e w3 ⟨rfl, hbn⟩
    have HB3 := Lib.hid hbn
    clear hbn
    cases B1 with
    | true =>
      have HRN : Hid (R = .ok (Ty.of 1)) := Lib.hid (by rw [HR.out]; simp [HUE.out])
      clear HR
      go_wp2_with fail
      refine (rplain_any 1 w3).mono ?_
      rintro e w9 ⟨rfl, hb9⟩
      have HB9 := Lib.hid (HB3.out.trans (hb9.mono HB3.out.size))
      clear hb9
      have hbR := HRB.out.below (HV2.out.trans (HB9.out.mono HV2.out.size)) HRB.out.lt
      have hbX := HX.out.below HB9.out HX.out.lt
      have r0 := hbR.cell 0; have r1 := hbR.cell 1; have r2 := hbR.cell 2
      have s0 := hbR.frozen 0; have s1 := hbR.frozen 1; have s2 := hbR.frozen 2
      have x0 := hbX.cell 0; have x1 := hbX.cell 1; have x2 := hbX.cell 2
      simp at r0 r1 r2 x0 x1 x2
      obtain ⟨WF, hWF⟩ : ∃ WF, WF = (((w9.setCell ⟨A, 0, none⟩ (.int .i64 1)).setCell ⟨A, 1, none⟩ (.slice none 0 0)).setCell ⟨A, 2, none⟩ (.slice none 0 0)) := ⟨_, rfl⟩
      have hres := res_storedR (u := Ty.of 1) (k4 := none) (k5 := none) (l4 := 0) (l5 := 0) (w := w) (P := P) (by rw [← HA.out]; exact Nat.le_refl _) HPP.out (HBW.out.trans ((HV2.out.trans (HB9.out.mono HV2.out.size)).mono HBW.out.size)) hbR (of_in 1 (by unfold i64r; decide) _) (of_sep _ _) rfl rfl hWF
      have HRES := Lib.hid hres; have HWF := Lib.hid hWF
      clear hres hWF hbR hbX
      go_wp2_with fail
      rw [← HWF.out]
      obtain ⟨hF, hJ⟩ := HRES.out
      have f0 := hF.cell 0; have f1 := hF.cell 1; have f2 := hF.cell 2
      simp [Ty.of, Ty.k, Ty.ns, Ty.xs] at f0 f1 f2
      refine bodyPost_ret (v := .tuple #[.agg #[.int .i64 1, .slice none 0 0, .slice none 0 0], .int .i64 0]) (by simp [results, Tryz.results57, go_sem, f0, f1, f2]) rfl ?_
      rw [HRN.out]
      exact hJ
    | false =>
      have HRN : Hid (R = .error 6) := Lib.hid (by rw [HR.out]; simp [HUE.out])
      clear HR
      have hbR := HRB.out.below (HV2.out.trans (HB3.out.mono HV2.out.size)) HRB.out.lt
      have hbX := HX.out.below HB3.out HX.out.lt
      have r0 := hbR.cell 0; have r1 := hbR.cell 1; have r2 := hbR.cell 2
      have s0 := hbR.frozen 0; have s1 := hbR.frozen 1; have s2 := hbR.frozen 2
      have x0 := hbX.cell 0; have x1 := hbX.cell 1; have x2 := hbX.cell 2
      simp at r0 r1 r2 x0 x1 x2
      obtain ⟨WF, hWF⟩ : ∃ WF, WF = (((w3.setCell ⟨A, 0, none⟩ (.int .i64 0)).setCell ⟨A, 1, none⟩ (.slice none 0 0)).setCell ⟨A, 2, none⟩ (.slice none 0 0)) := ⟨_, rfl⟩
      have hres := err_storedR (w := w) (P := P) (k := 6) (by rw [← HA.out]; exact Nat.le_refl _) (HBW.out.trans ((HV2.out.trans (HB3.out.mono HV2.out.size)).mono HBW.out.size)) hbR hWF
      have HRES := Lib.hid hres; have HWF := Lib.hid hWF
      clear hres hWF hbR hbX
      go_wp2_with fail
      rw [← HWF.out]
      obtain ⟨hF, hJ⟩ := HRES.out
      have f0 := hF.cell 0; have f1 := hF.cell 1; have f2 := hF.cell 2
      simp at f0 f1 f2
      refine bodyPost_ret (v := .tuple #[.agg #[.int .i64 0, .slice none 0 0, .slice none 0 0], .int .i64 6]) (by simp [results, Tryz.results57, go_sem, f0, f1, f2]) rfl ?_
      rw [HRN.out]
      exact hJ
  have j5 : (k == 5) = false := by simpa using h5
  have j6 : (k == 6) = false := by simpa using h6
  have j7 : (k == 7) = false := by simpa using h7
  have j8 : (k == 8) = false := by simpa using h8
  have j9 : (k == 9) = false := by simpa using h9
  have j10 : (k == 10) = false := by simpa using h10
  have j11 : (k == 11) = false := by simpa using h11
  have j12 : (k == 12) = false := by simpa using h12
  have j13 : (k == 13) = false := by simpa using h13
  have j14 : (k == 14) = false := by simpa using h14
  have HRN : Hid (R = .error 6) := Lib.hid (by rw [HR.out]; simp [h5, h6, h7, h8, h9, h10, h11, h12, h13, h14])
  clear HR h5 h6 h7 h8 h9 h10 h11 h12 h13 h14
  have hbR := HRB.out.below HV2.out HRB.out.lt
  have hbX := HX.out
  have r0 := hbR.cell 0; have r1 := hbR.cell 1; have r2 := hbR.cell 2
  have s0 := hbR.frozen 0; have s1 := hbR.frozen 1; have s2 := hbR.frozen 2
  have x0 := hbX.cell 0; have x1 := hbX.cell 1; have x2 := hbX.cell 2
  simp at r0 r1 r2 x0 x1 x2
  obtain ⟨WF, hWF⟩ : ∃ WF, WF = (((v2.setCell ⟨A, 0, none⟩ (.int .i64 0)).setCell ⟨A, 1, none⟩ (.slice none 0 0)).setCell ⟨A, 2, none⟩ (.slice none 0 0)) := ⟨_, rfl⟩
  have hres := err_storedR (w := w) (P := P) (k := 6) (by rw [← HA.out]; exact Nat.le_refl _) (HBW.out.trans (HV2.out.mono HBW.out.size)) hbR hWF
  have HRES := Lib.hid hres; have HWF := Lib.hid hWF
  clear hres hWF hbR hbX
  go_wp2_with fail
  rw [← HWF.out]
  obtain ⟨hF, hJ⟩ := HRES.out
  have f0 := hF.cell 0; have f1 := hF.cell 1; have f2 := hF.cell 2
  simp at f0 f1 f2
  refine bodyPost_ret (v := .tuple #[.agg #[.int .i64 0, .slice none 0 0, .slice none 0 0], .int .i64 6]) (by simp [results, Tryz.results57, go_sem, f0, f1, f2]) rfl ?_
  rw [HRN.out]
  exact hJ
end Go.Proofs.YtjpdbhhjlnmacaaGreat
