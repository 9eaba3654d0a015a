/- basculeref09.own: a choice, a list; any kind (printed by wip/gen_refown.py). -/
import Derived.Test.YtjpdbhhjlnmacaaGreatTcM50
import Derived.Test.YtjpdbhhjlnmacaaGreatTcM51
import Derived.Deep.DeepCutAuto
namespace Go.Proofs.YtjpdbhhjlnmacaaGreat
set_option linter.unusedVariables false
open Go.RowKit

set_option maxHeartbeats 8000000 in
set_option maxRecDepth 100000 in
theorem rown15 (x : Exp) (K : Ty) (vp : Option Addr) (vc : Nat) (vs : List Var) (P : Nat → Prop) (w : World) (h : ROwnIn x K vp vc vs P w) (hk : x.k = 15) (hl : K.xs.length = 3) :
    Calls Tryz.prog 34 #[x.agg, K.xa.val K.xs.length, .slice vp vs.length vc] w fun e w' => RGave (ownP x K.xs vs) P w e w' := by
  obtain ⟨W, hW⟩ : ∃ W, W = ((w.alloc (.cells x.cells.toArray 29)).alloc (.cells #[.int .i64 0, .slice none 0 0, .slice none 0 0] 36)).alloc (.cells #[.int .i64 0, .slice none 0 0, .slice none 0 0] 36) := ⟨_, rfl⟩
  have hj : G0 w W x := by rw [hW]; exact g0_start w x
  have hIW := h.below hj.below
  obtain ⟨kp, kc, ek, hK⟩ := hIW.kids
  obtain ⟨p8, q8, e8⟩ := h.hx.nslice
  obtain ⟨p9, q9, e9⟩ := h.hx.xslice
  obtain ⟨p6, q6, e6⟩ := h.hx.val.nslice
  obtain ⟨p7, q7, e7⟩ := h.hx.val.xslice
  obtain ⟨A, hA⟩ : ∃ A, A = w.heap.size := ⟨_, rfl⟩
  have bx := hj.bx; have br := hj.br; have bb := hj.bb; have hWS := hj.size
  rw [← hA] at bx br bb hWS
  obtain ⟨R, hR⟩ : ∃ R, R = ownP x K.xs vs := ⟨_, rfl⟩
  rw [← hR]
  have hR2 : R = if (nthT K.xs 0).k = 1 then toE ((nthT K.xs 1).joinT (nthT K.xs 2)) else .error 6 := by rw [hR]; unfold ownP; rw [if_neg (by omega), if_neg (by omega), if_pos hk]
  unfold Exp.cells at hW bx
  unfold Exp.agg
  rw [e6, e7, e8, e9, hk] at hW bx
  rw [e6, e7, e8, e9, ek, hk]
  rw [hl]
  have c0 := bx.cell 0; have c1 := bx.cell 1; have c2 := bx.cell 2; have c3 := bx.cell 3; have c4 := bx.cell 4; have c5 := bx.cell 5; have c6 := bx.cell 6; have c7 := bx.cell 7; have c8 := bx.cell 8; have c9 := bx.cell 9
  simp only [List.getElem?_toArray, List.getElem?_cons_zero, List.getElem?_cons_succ] at c0 c1 c2 c3 c4 c5 c6 c7 c8 c9
  have HW := Lib.hid hW; have HA := Lib.hid hA; have HBW := Lib.hid hj.below; have BR := Lib.hid br; have BB := Lib.hid bb; have HI := Lib.hid hIW; have HPP := Lib.hid h.hP; have HWS := Lib.hid hWS; have HKD := Lib.hid hK; have HR := Lib.hid hR; have EK := Lib.hid ek; have E8 := Lib.hid e8; have HX := Lib.hid bx
  clear hW hA hj br bb hIW hWS hR h ek e6 e7 e8 e9 bx hK
  obtain ⟨kb0, ko0, ekp0, hq0⟩ := HKD.out.nth (i := 0) (by rw [hl]; decide)
  obtain ⟨a, ha⟩ : ∃ a, a = nthT K.xs 0 := ⟨_, rfl⟩
  rw [← ha] at hq0
  have ham : a ∈ K.xs := by rw [ha]; simp [nthT, List.getD_eq_getElem?_getD, hl]
  obtain ⟨kb1, ko1, ekp1, hq1⟩ := HKD.out.nth (i := 1) (by rw [hl]; decide)
  obtain ⟨d, hd⟩ : ∃ d, d = nthT K.xs 1 := ⟨_, rfl⟩
  rw [← hd] at hq1
  have hdm : d ∈ K.xs := by rw [hd]; simp [nthT, List.getD_eq_getElem?_getD, hl]
  obtain ⟨kb2, ko2, ekp2, hq2⟩ := HKD.out.nth (i := 2) (by rw [hl]; decide)
  obtain ⟨g, hg⟩ : ∃ g, g = nthT K.xs 2 := ⟨_, rfl⟩
  rw [← hg] at hq2
  have hgm : g ∈ K.xs := by rw [hg]; simp [nthT, List.getD_eq_getElem?_getD, hl]
  rw [← ha, ← hd, ← hg] at hR2
  rw [ekp0] at ekp1 ekp2
  injection ekp1 with ekp1
  injection ekp1 with e1 e2
  subst e1 e2
  injection ekp2 with ekp2
  injection ekp2 with e1 e2
  subst e1 e2
  subst ekp0
  obtain ⟨JT, hJT⟩ : ∃ JT, JT = d.joinT g := ⟨_, rfl⟩
  rw [← hJT] at hR2
  have hjn := fun (W' : World) (hb : Below W.heap.size W W') => rjoin_any d.sz d g P W' (Nat.le_refl _) (fun b hb' => by have := HI.out.hP b hb'; have := hb.size; omega) (hq1.in.below hb) (hq2.in.below hb) ⟨1, HI.out.hKR d hdm⟩ ⟨1, HI.out.hKR g hgm⟩ (HI.out.hKS.kid hdm) (HI.out.hKS.kid hgm)
  unfold Ty.agg at hjn
  have ha0 := fun (W' : World) (hb : Below W.heap.size W W') => (hq0.below hb).c0
  have d0 := hq1.c0; have d1 := hq1.c1; have d2 := hq1.c2
  obtain ⟨dp4, dl4, df4⟩ := hq1.in.nslice
  obtain ⟨dp5, dl5, df5⟩ := hq1.in.xslice
  rw [df4] at d1; rw [df5] at d2
  try simp only [Nat.zero_mul, Nat.one_mul, Nat.add_zero] at d0 d1 d2
  have g0 := hq2.c0; have g1 := hq2.c1; have g2 := hq2.c2
  obtain ⟨gp4, gl4, gf4⟩ := hq2.in.nslice
  obtain ⟨gp5, gl5, gf5⟩ := hq2.in.xslice
  rw [gf4] at g1; rw [gf5] at g2
  try simp only [Nat.zero_mul, Nat.one_mul, Nat.add_zero] at g0 g1 g2
  rw [df4, df5, gf4, gf5, ← hJT] at hjn
  try simp only [show 2 * 3 = 6 from rfl] at g0 g1 g2
  obtain ⟨q, hq⟩ : ∃ q, q = a.k := ⟨_, rfl⟩
  rw [← hq] at hR2 ha0
  simp only [Nat.zero_mul, Nat.add_zero] at ha0
  have hcap : 3 ≤ kc := by have := HKD.out.cap; rw [hl] at this; exact this
  have hkb := hq0.2.1
  have HJN := Lib.hid hjn; have HA0 := Lib.hid ha0; have HR2 := Lib.hid hR2
  have HPW : Hid (∀ b, P b → b < W.heap.size) := Lib.hid HI.out.hP
  clear hjn ha0 hq0 hq1 hq2 ha hd hg ham hdm hgm hk hl HR hR2 hJT hq df4 df5 gf4 gf5
  go_enter Tryz.func34, Tryz.ntmps34
  go_upto_region 2 with fail
  rw [← HW.out, ← HA.out]
  go_upto_region 18 with fail
  go_cut [10, 11] (fun p q wx => RItem W P JT p q wx)
  case first =>
    go_region_law (first
      | (go_simp; go_at_call 21; refine (HJN.out _ (Below.refl _ _).drew).mono ?_; rintro e w6 ⟨hb6, u, rfl, hui, hus, hue⟩;
         obtain ⟨a4, b4, k4⟩ := hui.nslice; obtain ⟨a5, b5, k5⟩ := hui.xslice;
         unfold Ty.agg; rw [k4, k5];
         have hn6 := Blk.new w6 36 #[.int .i64 0, .slice none 0 0, .slice none 0 0];
         have z0 := hn6.cell 0; have z1 := hn6.cell 1; have z2 := hn6.cell 2;
         have y0 := hn6.frozen 0; have y1 := hn6.frozen 1; have y2 := hn6.frozen 2;
         simp at z0 z1 z2;
         have HFIN := Lib.hid (ritem_new (wr := W) ((Below.refl W.heap.size W).drew.trans hb6) k4 k5 hui hus hue);
         clear hn6 hb6 hui hus hue k4 k5)
      | (go_simp; go_at_call 21; refine (HJN.out _ ((Below.refl _ _).drew.alloc (Nat.le_refl _) _)).mono ?_; rintro e w6 ⟨hb6, u, rfl, hui, hus, hue⟩;
         obtain ⟨a4, b4, k4⟩ := hui.nslice; obtain ⟨a5, b5, k5⟩ := hui.xslice;
         unfold Ty.agg; rw [k4, k5];
         have hX6 : Blk w6 W.heap.size 36 #[.int .i64 0, .slice none 0 0, .slice none 0 0] := (Blk.new W.drew 36 _).below hb6 (by simp);
         have z0 := hX6.cell 0; have z1 := hX6.cell 1; have z2 := hX6.cell 2;
         have y0 := hX6.frozen 0; have y1 := hX6.frozen 1; have y2 := hX6.frozen 2;
         simp at z0 z1 z2;
         have HFIN := Lib.hid (ritem_set (wr := W) (((Below.refl W.heap.size W).drew.alloc (Nat.le_refl _) _).trans (hb6.mono (by simp))) (Nat.le_refl _) hX6 k4 k5 hui (hus.mono (fun b hb => by
            have hz' : (W.drew.alloc (.cells #[.int .i64 0, .slice none 0 0, .slice none 0 0] 36)).heap.size = W.heap.size + 1 := by simp
            rcases hb with hb | hb
            · exact ⟨.inl hb, by have := HPW.out b hb; omega⟩
            · rw [hz'] at hb
              exact ⟨.inr (by omega), by omega⟩)) hue);
         clear hX6 hb6 hui hus hue k4 k5))
    all_goals (go_wp2_with fail)
    all_goals go_meet
    all_goals exact HFIN.out
  case rest =>
  obtain ⟨X, u, rfl, rfl, hbx, hbX, hui, hus, hue⟩ := hcut
  obtain ⟨v2, hv2⟩ : ∃ v2 : World, v2 = wc := ⟨_, rfl⟩
  rw [← hv2] at hbx hbX hui ⊢
  obtain ⟨k4, l4, f4⟩ := hui.nslice
  obtain ⟨k5, l5, f5⟩ := hui.xslice
  rw [f4, f5] at hbX
  have a0 := HA0.out v2 hbx
  have HB2 := Lib.hid hbx; have HX2 := Lib.hid hbX; have HUI := Lib.hid hui; have HUE := Lib.hid hue; have F4 := Lib.hid f4; have F5 := Lib.hid f5
  have HUS := Lib.hid ((hus.mono (fun b hb => by rcases hb with hb | hb; exact .inl hb; exact .inr (by have h1 := HWS.out; have h2 := HA.out; omega))) : u.Sep (fun b => P b ∨ (w.heap.size ≤ b ∧ b ≠ A + 1)))
  clear hv2 hbx hbX hui hus hue f4 f5 c0 c1 c2 c3 c4 c5 c6 c7 c8 c9 d0 d1 d2 g0 g1 g2
  by_cases h1 : q = 1
  · subst h1
    cases JT with
    | none =>
      have HRN : Hid (R = .error 6) := Lib.hid (by rw [HR2.out]; rfl)
      clear HR2
      simp only [Option.isSome_none]
      have hbR := BR.out.below HB2.out BR.out.lt
      have hbB := BB.out.below HB2.out BB.out.lt
      have r0 := hbR.cell 0; have r1 := hbR.cell 1; have r2 := hbR.cell 2
      have s0 := hbR.frozen 0; have s1 := hbR.frozen 1; have s2 := hbR.frozen 2
      have z0 := hbB.cell 0; have z1 := hbB.cell 1; have z2 := hbB.cell 2
      simp at r0 r1 r2 z0 z1 z2
      obtain ⟨WF, hWF⟩ : ∃ WF, WF = (((v2.setCell ⟨A + 1, 0, none⟩ (.int .i64 0)).setCell ⟨A + 1, 1, none⟩ (.slice none 0 0)).setCell ⟨A + 1, 2, none⟩ (.slice none 0 0)) := ⟨_, rfl⟩
      have hres := err_storedR (w := w) (P := P) (R := A + 1) (k := 6) (by rw [← HA.out]; omega) (HBW.out.trans (HB2.out.mono HBW.out.size)) hbR hWF
      have HRES := Lib.hid hres; have HWF := Lib.hid hWF
      clear hres hWF hbR hbB
      go_wp2_with fail
      rw [← HWF.out]
      obtain ⟨hF, hJ⟩ := HRES.out
      have f0 := hF.cell 0; have f1 := hF.cell 1; have f2 := hF.cell 2
      simp at f0 f1 f2
      refine bodyPost_ret (v := .tuple #[.agg #[.int .i64 0, .slice none 0 0, .slice none 0 0], .int .i64 6]) (by simp [results, Tryz.results34, go_sem, f0, f1, f2]) rfl ?_
      rw [HRN.out]
      exact hJ
    | some v =>
      simp only [Option.isSome_some]
      have HRN : Hid (R = .ok u.erase) := Lib.hid (by rw [HR2.out, HUE.out]; rfl)
      clear HR2
      have hbX := HX2.out
      have x0 := hbX.cell 0; have x1 := hbX.cell 1; have x2 := hbX.cell 2
      simp at x0 x1 x2
      clear hbX
      have hbR := BR.out.below HB2.out BR.out.lt
      have hbB := BB.out.below HB2.out BB.out.lt
      have r0 := hbR.cell 0; have r1 := hbR.cell 1; have r2 := hbR.cell 2
      have s0 := hbR.frozen 0; have s1 := hbR.frozen 1; have s2 := hbR.frozen 2
      have z0 := hbB.cell 0; have z1 := hbB.cell 1; have z2 := hbB.cell 2
      simp at r0 r1 r2 z0 z1 z2
      obtain ⟨WF, hWF⟩ : ∃ WF, WF = (((v2.setCell ⟨A + 1, 0, none⟩ (.int .i64 u.k)).setCell ⟨A + 1, 1, none⟩ (.slice k4 u.ns.length l4)).setCell ⟨A + 1, 2, none⟩ (.slice k5 u.xs.length l5)) := ⟨_, rfl⟩
      have hres := res_storedR (u := u)  (w := w) (P := P) (R := A + 1) (by rw [← HA.out]; omega) HPP.out (HBW.out.trans (HB2.out.mono HBW.out.size)) hbR HUI.out HUS.out F4.out F5.out hWF
      have HRES := Lib.hid hres; have HWF := Lib.hid hWF
      clear hres hWF hbR hbB
      go_wp2_with fail
      rw [← HWF.out]
      obtain ⟨hF, hJ⟩ := HRES.out
      have f0 := hF.cell 0; have f1 := hF.cell 1; have f2 := hF.cell 2
      simp at f0 f1 f2
      refine bodyPost_ret (v := .tuple #[.agg #[.int .i64 u.k, .slice k4 u.ns.length l4, .slice k5 u.xs.length l5], .int .i64 0]) (by simp [results, Tryz.results34, go_sem, f0, f1, f2]) rfl ?_
      rw [HRN.out]
      exact hJ
  · have HRN : Hid (R = .error 6) := Lib.hid (by rw [HR2.out, if_neg h1])
    have j1 : (q == 1) = false := by simpa using h1
    clear HR2 h1
    have hbR := BR.out.below HB2.out BR.out.lt
    have hbB := BB.out.below HB2.out BB.out.lt
    have r0 := hbR.cell 0; have r1 := hbR.cell 1; have r2 := hbR.cell 2
    have s0 := hbR.frozen 0; have s1 := hbR.frozen 1; have s2 := hbR.frozen 2
    have z0 := hbB.cell 0; have z1 := hbB.cell 1; have z2 := hbB.cell 2
    simp at r0 r1 r2 z0 z1 z2
    obtain ⟨WF, hWF⟩ : ∃ WF, WF = (((v2.setCell ⟨A + 1, 0, none⟩ (.int .i64 0)).setCell ⟨A + 1, 1, none⟩ (.slice none 0 0)).setCell ⟨A + 1, 2, none⟩ (.slice none 0 0)) := ⟨_, rfl⟩
    have hres := err_storedR (w := w) (P := P) (R := A + 1) (k := 6) (by rw [← HA.out]; omega) (HBW.out.trans (HB2.out.mono HBW.out.size)) hbR hWF
    have HRES := Lib.hid hres; have HWF := Lib.hid hWF
    clear hres hWF hbR hbB
    go_wp2_with fail
    rw [← HWF.out]
    obtain ⟨hF, hJ⟩ := HRES.out
    have f0 := hF.cell 0; have f1 := hF.cell 1; have f2 := hF.cell 2
    simp at f0 f1 f2
    refine bodyPost_ret (v := .tuple #[.agg #[.int .i64 0, .slice none 0 0, .slice none 0 0], .int .i64 6]) (by simp [results, Tryz.results34, go_sem, f0, f1, f2]) rfl ?_
    rw [HRN.out]
    exact hJ
set_option maxHeartbeats 8000000 in
set_option maxRecDepth 100000 in
theorem rown16 (x : Exp) (K : Ty) (vp : Option Addr) (vc : Nat) (vs : List Var) (P : Nat → Prop) (w : World) (h : ROwnIn x K vp vc vs P w) (hk : x.k = 16) :
    Calls Tryz.prog 34 #[x.agg, K.xa.val K.xs.length, .slice vp vs.length vc] w fun e w' => RGave (ownP x K.xs vs) P w e w' := by
  obtain ⟨W, hW⟩ : ∃ W, W = ((w.alloc (.cells x.cells.toArray 29)).alloc (.cells #[.int .i64 0, .slice none 0 0, .slice none 0 0] 36)).alloc (.cells #[.int .i64 0, .slice none 0 0, .slice none 0 0] 36) := ⟨_, rfl⟩
  have hj : G0 w W x := by rw [hW]; exact g0_start w x
  have hIW := h.below hj.below
  obtain ⟨kp, kc, ek, hK⟩ := hIW.kids
  obtain ⟨p8, q8, e8⟩ := h.hx.nslice
  obtain ⟨p9, q9, e9⟩ := h.hx.xslice
  obtain ⟨p6, q6, e6⟩ := h.hx.val.nslice
  obtain ⟨p7, q7, e7⟩ := h.hx.val.xslice
  obtain ⟨A, hA⟩ : ∃ A, A = w.heap.size := ⟨_, rfl⟩
  have bx := hj.bx; have br := hj.br; have bb := hj.bb; have hWS := hj.size
  rw [← hA] at bx br bb hWS
  obtain ⟨R, hR⟩ : ∃ R, R = ownP x K.xs vs := ⟨_, rfl⟩
  rw [← hR]
  unfold Exp.cells at hW bx
  unfold Exp.agg
  rw [e6, e7, e8, e9, hk] at hW bx
  rw [e6, e7, e8, e9, ek, hk]
  have c0 := bx.cell 0; have c1 := bx.cell 1; have c2 := bx.cell 2; have c3 := bx.cell 3; have c4 := bx.cell 4; have c5 := bx.cell 5; have c6 := bx.cell 6; have c7 := bx.cell 7; have c8 := bx.cell 8; have c9 := bx.cell 9
  simp only [List.getElem?_toArray, List.getElem?_cons_zero, List.getElem?_cons_succ] at c0 c1 c2 c3 c4 c5 c6 c7 c8 c9
  have HW := Lib.hid hW; have HA := Lib.hid hA; have HBW := Lib.hid hj.below; have BR := Lib.hid br; have BB := Lib.hid bb; have HI := Lib.hid hIW; have HPP := Lib.hid h.hP; have HWS := Lib.hid hWS; have HKD := Lib.hid hK; have HR := Lib.hid hR; have EK := Lib.hid ek; have E8 := Lib.hid e8; have HX := Lib.hid bx
  clear hW hA hj br bb hIW hWS hR h ek e6 e7 e8 e9 bx hK
  obtain ⟨F, hF⟩ : ∃ F, F = (foldJ (Ty.of 7) K.xs).map Ty.erase := ⟨_, rfl⟩
  have hR2 : R = listR F := by
    rw [HR.out, hF]; unfold ownP; rw [if_neg (by omega), if_neg (by omega), if_neg (by omega), if_pos hk]
    cases foldJ (Ty.of 7) K.xs <;> rfl
  have hMb : K.xs.length ≤ 2513169434843 := HI.out.hK.ok.2.2.1
  obtain ⟨M, hM⟩ : ∃ M, M = K.xs.length := ⟨_, rfl⟩
  have hMc : M ≤ kc := by rw [hM]; exact HKD.out.cap
  rw [← hM] at hMb ⊢
  have HR2 := Lib.hid hR2; have HF := Lib.hid hF; have HM := Lib.hid hM
  have HOF := Lib.hid (fun W => rplain_any 7 W)
  clear HR hF hR2 hM hk
  go_enter Tryz.func34, Tryz.ntmps34
  go_upto_region 2 with fail
  rw [← HW.out, ← HA.out]
  go_wp2_with fail
  refine (HOF.out _).mono ?_
  rintro e w5 ⟨rfl, hb5⟩
  obtain ⟨T, hT⟩ : ∃ T, T = w5.heap.size := ⟨_, rfl⟩
  obtain ⟨W6, hW6⟩ : ∃ W6, W6 = w5.alloc (.cells #[.int .i64 7, .slice none 0 0, .slice none 0 0] 36) := ⟨_, rfl⟩
  have hb6 : Below W.heap.size W W6 := by rw [hW6]; exact hb5.alloc hb5.size _
  have hbt : Blk W6 T 36 #[.int .i64 7, .slice none 0 0, .slice none 0 0] := by rw [hW6, hT]; exact Blk.new w5 36 _
  have hWT : W.heap.size ≤ T := by rw [hT]; exact hb5.size
  have HW6 := Lib.hid hW6; have B6 := Lib.hid hb6; have HBT := Lib.hid hbt; have HT := Lib.hid hT; have HWT := Lib.hid hWT
  clear hW6 hb6 hbt hb5 hT hWT c0 c1 c2 c3 c4 c5 c6 c7 c8 c9
  go_upto_region 23 with fail
  rw [← HW6.out, ← HT.out]
  go_wp2_with fail
  go_loopw [13] (fun iv wr => ∃ (i : Nat) (u : Ty) (k4 k5 : Option Addr) (l4 l5 : Nat), iv = .int .i64 (i : Int) ∧ i ≤ M ∧ Hid (Blk wr T 36 #[.int .i64 u.k, .slice k4 u.ns.length l4, .slice k5 u.xs.length l5]) ∧
    Hid (u.na.val u.ns.length = .slice k4 u.ns.length l4) ∧ Hid (u.xa.val u.xs.length = .slice k5 u.xs.length l5) ∧ Hid (u.In wr) ∧ Hid (u.Sep (fun b => P b ∨ T + 1 ≤ b)) ∧ Hid (u.rightB 1 = true) ∧ Hid (F = (foldJ u (K.xs.drop i)).map Ty.erase) ∧ Hid (Below W.heap.size W wr)) (fun iv _ => M - (intOf iv).toNat)
  case atStart => exact ⟨0, Ty.of 7, none, none, 0, 0, rfl, by omega, HBT, Lib.hid rfl, Lib.hid rfl, Lib.hid (of_in 7 (by unfold i64r; decide) _), Lib.hid (of_sep _ _), Lib.hid (by rw [Ty.rightB_mk]; decide), Lib.hid (by rw [HF.out]; rfl), B6⟩
  case round =>
    obtain ⟨i, u, k4, k5, l4, l5, rfl, hi, HB, E4, E5, HIN, HSEP, HRI, HFO, HBL⟩ := hrel
    by_cases hlt : i < M
    · have hil : i < K.xs.length := by rw [← HM.out]; exact hlt
      obtain ⟨xb, xo, rfl, hpx0⟩ := HKD.out.at_ i hil
      obtain ⟨y, hy⟩ : ∃ y, y = K.xs[i]'hil := ⟨_, rfl⟩
      have hym : y ∈ K.xs := by rw [hy]; simp
      rw [← hy] at hpx0
      have hpx := hpx0.below HBL.out
      have u0 := hpx.c0; have u1 := hpx.c1; have u2 := hpx.c2
      obtain ⟨m4, n4, g4⟩ := hpx.in.nslice
      obtain ⟨m5, n5, g5⟩ := hpx.in.xslice
      rw [g4] at u1; rw [g5] at u2
      have hTw : T < wr.heap.size := HB.out.lt
      have hwW : W.heap.size ≤ wr.heap.size := HBL.out.size
      have hww : w.heap.size ≤ W.heap.size := HBW.out.size
      have hsu : u.Sep (fun b => P b ∨ (T + 1 ≤ b ∧ b < wr.heap.size)) := (HSEP.out.and HIN.out.sep).mono (fun b hb => by
        rcases hb.1 with h | h
        · exact .inl h
        · exact .inr ⟨h, hb.2⟩)
      have hpw : ∀ b, (P b ∨ (T + 1 ≤ b ∧ b < wr.heap.size)) → b < wr.heap.size := fun b hb => by
        rcases hb with h | h
        · have := HPP.out b h; omega
        · exact h.2
      have hc := fun (W' : World) (hb : Below wr.heap.size wr W') => rjoin_any u.sz u y (fun b => P b ∨ (T + 1 ≤ b ∧ b < wr.heap.size)) W' (Nat.le_refl _) (fun b hb' => Nat.lt_of_lt_of_le (hpw b hb') hb.size) (HIN.out.below hb) (hpx.in.below hb) ⟨1, HRI.out⟩ ⟨1, HI.out.hKR y hym⟩ hsu ((HI.out.hKS.kid hym).mono (fun b hb => .inl hb))
      obtain ⟨JT, hJT⟩ : ∃ JT, JT = u.joinT y := ⟨_, rfl⟩
      rw [← hJT] at hc
      unfold Ty.agg at hc
      rw [g4, g5, E4.out, E5.out] at hc
      have hk0 : (0 : Int) ≤ (i : Int) := by omega
      have hk1 : (i : Int) < (M : Int) := by omega
      have hxbw := hpx.2.1
      have HJN := Lib.hid hc; have HPW := Lib.hid hpw; have HJT := Lib.hid hJT; have HY := Lib.hid hy; have HYM := Lib.hid hym
      have t0 := HB.out.cell 0; have t1 := HB.out.cell 1; have t2 := HB.out.cell 2
      simp at t0 t1 t2
      have HSZ := Lib.hid hTw
      clear hc hpx hpx0 hJT hsu hym g4 g5 hwW hww hy hpw
      go_upto_region 26 with fail
      go_cut [13, 14, 15] (fun iv p q wx => iv = .int .i64 (i : Int) ∧ RItem wr (fun b => P b ∨ (T + 1 ≤ b ∧ b < wr.heap.size)) JT p q wx)
      case first =>
        go_region_law (first
          | (go_simp; go_at_call 21; refine (HJN.out _ (Below.refl _ _).drew).mono ?_; rintro e w6 ⟨hb6, u, rfl, hui, hus, hue⟩;
             obtain ⟨a4, b4, k4⟩ := hui.nslice; obtain ⟨a5, b5, k5⟩ := hui.xslice;
             unfold Ty.agg; rw [k4, k5];
             have hn6 := Blk.new w6 36 #[.int .i64 0, .slice none 0 0, .slice none 0 0];
             have z0 := hn6.cell 0; have z1 := hn6.cell 1; have z2 := hn6.cell 2;
             have y0 := hn6.frozen 0; have y1 := hn6.frozen 1; have y2 := hn6.frozen 2;
             simp at z0 z1 z2;
             have HFIN := Lib.hid (ritem_new (wr := wr) ((Below.refl wr.heap.size wr).drew.trans hb6) k4 k5 hui hus hue);
             clear hn6 hb6 hui hus hue k4 k5)
          | (go_simp; go_at_call 21; refine (HJN.out _ ((Below.refl _ _).drew.alloc (Nat.le_refl _) _)).mono ?_; rintro e w6 ⟨hb6, u, rfl, hui, hus, hue⟩;
             obtain ⟨a4, b4, k4⟩ := hui.nslice; obtain ⟨a5, b5, k5⟩ := hui.xslice;
             unfold Ty.agg; rw [k4, k5];
             have hX6 : Blk w6 wr.heap.size 36 #[.int .i64 0, .slice none 0 0, .slice none 0 0] := (Blk.new wr.drew 36 _).below hb6 (by simp);
             have z0 := hX6.cell 0; have z1 := hX6.cell 1; have z2 := hX6.cell 2;
             have y0 := hX6.frozen 0; have y1 := hX6.frozen 1; have y2 := hX6.frozen 2;
             simp at z0 z1 z2;
             have HFIN := Lib.hid (ritem_set (wr := wr) (((Below.refl wr.heap.size wr).drew.alloc (Nat.le_refl _) _).trans (hb6.mono (by simp))) (Nat.le_refl _) hX6 k4 k5 hui (hus.mono (fun b hb => by
                have hz' : (wr.drew.alloc (.cells #[.int .i64 0, .slice none 0 0, .slice none 0 0] 36)).heap.size = wr.heap.size + 1 := by simp
                rcases hb with hb | hb
                · exact ⟨.inl hb, by have := HPW.out b hb; omega⟩
                · rw [hz'] at hb
                  exact ⟨.inr (by omega), by omega⟩)) hue);
             clear hX6 hb6 hui hus hue k4 k5))
        all_goals (go_wp2_with fail)
        all_goals go_meet
        all_goals exact ⟨rfl, HFIN.out⟩
      case rest =>
      obtain ⟨rfl, X, u', rfl, rfl, hbx, hbX, hui, hus, hue⟩ := hcut
      obtain ⟨v2, hv2⟩ : ∃ v2 : World, v2 = wc := ⟨_, rfl⟩
      rw [← hv2] at hbx hbX hui ⊢
      obtain ⟨a4, b4, f4⟩ := hui.nslice
      obtain ⟨a5, b5, f5⟩ := hui.xslice
      rw [f4, f5] at hbX
      have HB2 := Lib.hid (HBL.out.trans (hbx.mono HBL.out.size))
      clear u0 u1 u2 t0 t1 t2
      cases JT with
      | none =>
        have HRN : Hid (R = .error 6) := Lib.hid (by
          rw [HR2.out, HFO.out, foldJ_stop hil (by rw [← HY.out, ← HJT.out])]; rfl)
        simp only [Option.isSome_none]
        clear hv2 hbx hbX hui hus hue f4 f5
        have hbR := BR.out.below HB2.out BR.out.lt
        have hbB := BB.out.below HB2.out BB.out.lt
        have r0 := hbR.cell 0; have r1 := hbR.cell 1; have r2 := hbR.cell 2
        have s0 := hbR.frozen 0; have s1 := hbR.frozen 1; have s2 := hbR.frozen 2
        have z0 := hbB.cell 0; have z1 := hbB.cell 1; have z2 := hbB.cell 2
        simp at r0 r1 r2 z0 z1 z2
        obtain ⟨WF, hWF⟩ : ∃ WF, WF = (((v2.setCell ⟨A + 1, 0, none⟩ (.int .i64 0)).setCell ⟨A + 1, 1, none⟩ (.slice none 0 0)).setCell ⟨A + 1, 2, none⟩ (.slice none 0 0)) := ⟨_, rfl⟩
        have hres := err_storedR (w := w) (P := P) (R := A + 1) (k := 6) (by rw [← HA.out]; omega) (HBW.out.trans (HB2.out.mono HBW.out.size)) hbR hWF
        have HRES := Lib.hid hres; have HWF := Lib.hid hWF
        clear hres hWF hbR hbB
        go_wp2_with fail
        rw [← HWF.out]
        obtain ⟨hF, hJ⟩ := HRES.out
        have f0 := hF.cell 0; have f1 := hF.cell 1; have f2 := hF.cell 2
        simp at f0 f1 f2
        refine bodyPost_ret (v := .tuple #[.agg #[.int .i64 0, .slice none 0 0, .slice none 0 0], .int .i64 6]) (by simp [results, Tryz.results34, go_sem, f0, f1, f2]) rfl ?_
        rw [HRN.out]
        exact hJ
      | some v =>
        simp only [Option.isSome_some]
        have hbT := HB.out.below hbx HB.out.lt
        have r0 := hbT.cell 0; have r1 := hbT.cell 1; have r2 := hbT.cell 2
        have s0 := hbT.frozen 0; have s1 := hbT.frozen 1; have s2 := hbT.frozen 2
        have x0 := hbX.cell 0; have x1 := hbX.cell 1; have x2 := hbX.cell 2
        simp at r0 r1 r2 x0 x1 x2
        obtain ⟨WF, hWF⟩ : ∃ WF, WF = ((v2.setCell ⟨T, 0, none⟩ (.int .i64 u'.k)).setCell ⟨T, 1, none⟩ (.slice a4 u'.ns.length b4)).setCell ⟨T, 2, none⟩ (.slice a5 u'.xs.length b5) := ⟨_, rfl⟩
        have hsu : u'.Sep (fun b => P b ∨ T + 1 ≤ b) := hus.mono (fun b hb => by
          have h6 := HSZ.out
          rcases hb with h | h
          · rcases h with h | h
            · exact .inl h
            · exact .inr h.1
          · exact .inr (by omega))
        obtain ⟨hTF, hIF⟩ := ty_over (fun b hb => by have := HPP.out b hb; have h2 := HBW.out.size; have h3 := HWT.out; omega) hbT hui hsu hWF
        have hBF : Below W.heap.size W WF := by rw [hWF]; exact below3_set HB2.out HWT.out _ _ _
        have HWF := Lib.hid hWF; have HTF := Lib.hid hTF; have HIF := Lib.hid hIF; have HBF := Lib.hid hBF; have HSU := Lib.hid hsu; have F4 := Lib.hid f4; have F5 := Lib.hid f5
        have HRT : Hid (u'.rightB 1 = true) := Lib.hid (by
          rw [← Ty.rightB_erase u'.sz u' 1 (Nat.le_refl _), hue]
          exact joinT_right HRI.out (HI.out.hKR y HYM.out) HJT.out.symm)
        have HF2 : Hid (F = (foldJ u' (K.xs.drop (i + 1))).map Ty.erase) := Lib.hid (by
          rw [HFO.out]
          exact foldJ_drop (v := v) hil (by rw [← HY.out, ← HJT.out]) (show u'.erase = v from hue))
        clear hWF hTF hIF hBF hsu f4 f5 hbT hbX hbx hui hus hue hv2
        go_wp2_with fail
        rw [← HWF.out]
        go_roundw
        case rel => exact ⟨i + 1, u', a4, a5, b4, b5, by go_num, by omega, HTF, F4, F5, HIF, HSU, HRT, HF2, HBF⟩
        case measure => simp [intOf]; omega
    · obtain rfl : i = M := by omega
      have t0 := HB.out.cell 0; have t1 := HB.out.cell 1; have t2 := HB.out.cell 2
      simp at t0 t1 t2
      have hlt2 : decide ((i : Int) < (i : Int)) = false := by simp
      have HRS : Hid (R = .ok (Ty.mk 5 .no [] (.at_ wr.heap.size 0 1) [u]).erase) := Lib.hid (by
        rw [HR2.out, HFO.out, HM.out, List.drop_length, Ty.erase_eq]
        rfl)
      obtain ⟨W9, hW9⟩ : ∃ W9, W9 = wr.alloc (.cells #[.int .i64 u.k, .slice k4 u.ns.length l4, .slice k5 u.xs.length l5] 36) := ⟨_, rfl⟩
      have hb9 : Below W.heap.size W W9 := by rw [hW9]; exact HBL.out.alloc HBL.out.size _
      have hU := one_row HIN.out
      have hcl : u.cells.toArray = #[.int .i64 u.k, .slice k4 u.ns.length l4, .slice k5 u.xs.length l5] := by unfold Ty.cells; rw [E4.out, E5.out]
      rw [hcl, ← hW9] at hU
      have hTw : T < wr.heap.size := HB.out.lt
      have hUS : (Ty.mk 5 .no [] (.at_ wr.heap.size 0 1) [u]).Sep (fun b => P b ∨ (w.heap.size ≤ b ∧ b ≠ A + 1)) := by
        rw [Ty.sep_iff]
        refine ⟨trivial, .inr (.inr (by have h1 := HBL.out.size; have h2 := HWS.out; have h3 := HA.out; omega)), fun y hy => ?_⟩
        obtain rfl : y = u := by simpa [Ty.xs] using hy
        exact HSEP.out.mono (fun b hb => by
          rcases hb with h | h
          · exact .inl h
          · exact .inr (by have h1 := HWT.out; have h2 := HWS.out; have h3 := HA.out; omega))
      have HW9 := Lib.hid hW9; have B9 := Lib.hid hb9
      have hbr := BR.out.below B9.out BR.out.lt
      obtain ⟨WF, hWF⟩ : ∃ WF, WF = ((W9.setCell ⟨A + 1, 0, none⟩ (.int .i64 5)).setCell ⟨A + 1, 1, none⟩ (.slice none 0 0)).setCell ⟨A + 1, 2, none⟩ (.slice (some ⟨wr.heap.size, 0, none⟩) 1 1) := ⟨_, rfl⟩
      have hres := res_storedR (u := Ty.mk 5 .no [] (.at_ wr.heap.size 0 1) [u]) (k4 := none) (k5 := (some ⟨wr.heap.size, 0, none⟩)) (l4 := 0) (l5 := 1) (w := w) (P := P) (R := A + 1) (by rw [← HA.out]; omega) HPP.out (HBW.out.trans (B9.out.mono HBW.out.size)) hbr hU hUS rfl rfl hWF
      have HRES := Lib.hid hres
      have hbr0 := BR.out.below HBL.out BR.out.lt
      have hlr0 := hbr0.lt
      have hWF2 : WF = (((wr.setCell ⟨A + 1, 0, none⟩ (.int .i64 5)).setCell ⟨A + 1, 1, none⟩ (.slice none 0 0)).setCell ⟨A + 1, 2, none⟩ (.slice (some ⟨wr.heap.size, 0, none⟩) 1 1)).alloc (.cells #[.int .i64 u.k, .slice k4 u.ns.length l4, .slice k5 u.xs.length l5] 36) := by
        rw [hWF, hW9]
        simp [go_sem, hlr0]
      have HWF := Lib.hid hWF2
      clear hres hWF hbr hb9 hU hcl hUS hlt hW9 hWF2 hlr0 hbr0 hTw
      have hbr := BR.out.below HBL.out BR.out.lt
      have r0 := hbr.cell 0; have r1 := hbr.cell 1; have r2 := hbr.cell 2
      have s0 := hbr.frozen 0; have s1 := hbr.frozen 1; have s2 := hbr.frozen 2
      simp at r0 r1 r2
      have hlr := hbr.lt
      clear hbr
      go_wp2_with fail
      rw [← HWF.out]
      obtain ⟨hF, hJ⟩ := HRES.out
      have f0 := hF.cell 0; have f1 := hF.cell 1; have f2 := hF.cell 2
      simp [Ty.k, Ty.ns, Ty.xs] at f0 f1 f2
      refine bodyPost_ret (v := .tuple #[.agg #[.int .i64 5, .slice none 0 0, .slice (some ⟨wr.heap.size, 0, none⟩) 1 1], .int .i64 0]) (by simp [results, Tryz.results34, go_sem, f0, f1, f2]) rfl ?_
      rw [HRS.out]
      exact hJ
theorem rown_any (x : Exp) (K : Ty) (vp : Option Addr) (vc : Nat) (vs : List Var) (P : Nat → Prop) (w : World) (h : ROwnIn x K vp vc vs P w) (hw : wantsP x.k ≠ -2) (hl : wantsP x.k < 0 ∨ (K.xs.length : Int) = wantsP x.k) :
    Calls Tryz.prog 34 #[x.agg, K.xa.val K.xs.length, .slice vp vs.length vc] w fun e w' => RGave (ownP x K.xs vs) P w e w' := by
  have h1 : x.k = 3 ∨ x.k = 4 ∨ x.k = 18 ∨ (20 ≤ x.k ∧ x.k ≤ 23) → wantsP x.k = 1 := fun hh => by unfold wantsP; rw [if_neg (by omega), if_pos hh]
  have hone : x.k = 3 ∨ x.k = 4 ∨ x.k = 18 ∨ (20 ≤ x.k ∧ x.k ≤ 23) → K.xs.length = 1 := fun hh => by have := h1 hh; rw [this] at hl; omega
  have htwo : (5 ≤ x.k ∧ x.k ≤ 14) ∨ x.k = 19 → K.xs.length = 2 := fun hh => by
    have : wantsP x.k = 2 := by unfold wantsP; rw [if_neg (by omega), if_neg (by omega), if_pos hh]
    rw [this] at hl; omega
  have hthr : x.k = 15 → K.xs.length = 3 := fun hh => by
    have : wantsP x.k = 3 := by unfold wantsP; rw [if_neg (by omega), if_neg (by omega), if_neg (by omega), if_pos hh]
    rw [this] at hl; omega
  have hrange : 1 ≤ x.k ∧ x.k ≤ 23 := by
    by_cases hc : 1 ≤ x.k ∧ x.k ≤ 23
    · exact hc
    · exact absurd (by unfold wantsP; rw [if_neg (by omega), if_neg (by omega), if_neg (by omega), if_neg (by omega), if_neg (by omega)]) hw
  by_cases c1 : x.k = 1
  · exact rown1 x K vp vc vs P w h c1
  by_cases c2 : x.k = 2
  · exact rown2 x K vp vc vs P w h c2
  by_cases c3 : x.k = 3
  · exact rown_un x K vp vc vs P w h (by omega) (hone (by omega))
  by_cases c4 : x.k = 4
  · exact rown_un x K vp vc vs P w h (by omega) (hone (by omega))
  by_cases c15 : x.k = 15
  · exact rown15 x K vp vc vs P w h c15 (hthr c15)
  by_cases c16 : x.k = 16
  · exact rown16 x K vp vc vs P w h c16
  by_cases c17 : x.k = 17
  · exact rown17 x K vp vc vs P w h c17
  by_cases c18 : x.k = 18
  · exact rown18 x K vp vc vs P w h c18 (hone (by omega))
  by_cases c19 : x.k = 19
  · exact rown19 x K vp vc vs P w h c19 (htwo (by omega))
  by_cases c20 : x.k = 20
  · exact rown_un x K vp vc vs P w h (by omega) (hone (by omega))
  by_cases c21 : x.k = 21
  · exact rown_un x K vp vc vs P w h (by omega) (hone (by omega))
  by_cases c22 : x.k = 22
  · exact rown_un x K vp vc vs P w h (by omega) (hone (by omega))
  by_cases c23 : x.k = 23
  · exact rown_un x K vp vc vs P w h (by omega) (hone (by omega))
  exact rown_two x K vp vc vs P w h (by omega) (htwo (by omega))
end Go.Proofs.YtjpdbhhjlnmacaaGreat
