/- basculeref09.own: a constant, a name, one kid (printed by wip/gen_refown.py). -/
import Derived.Test.YtjpdbhhjlnmacaaGreatTcM49
import Derived.RegionTactic
namespace Go.Proofs.YtjpdbhhjlnmacaaGreat
set_option linter.unusedVariables false
open Go.RowKit

set_option maxHeartbeats 8000000 in
set_option maxRecDepth 100000 in
theorem rown1 (x : Exp) (K : Ty) (vp : Option Addr) (vc : Nat) (vs : List Var) (P : Nat → Prop) (w : World) (h : ROwnIn x K vp vc vs P w) (hk : x.k = 1) :
    Calls Tryz.prog 34 #[x.agg, K.xa.val K.xs.length, .slice vp vs.length vc] w fun e w' => RGave (ownP x K.xs vs) P w e w' := by
  obtain ⟨W, hW⟩ : ∃ W, W = ((w.alloc (.cells x.cells.toArray 29)).alloc (.cells #[.int .i64 0, .slice none 0 0, .slice none 0 0] 36)).alloc (.cells #[.int .i64 0, .slice none 0 0, .slice none 0 0] 36) := ⟨_, rfl⟩
  have hj : G0 w W x := by rw [hW]; exact g0_start w x
  have hIW := h.below hj.below
  obtain ⟨kp, kc, ek, hK⟩ := hIW.kids
  obtain ⟨p8, q8, e8⟩ := h.hx.nslice
  obtain ⟨p9, q9, e9⟩ := h.hx.xslice
  obtain ⟨p6, q6, e6⟩ := h.hx.val.nslice
  obtain ⟨p7, q7, e7⟩ := h.hx.val.xslice
  obtain ⟨A, hA⟩ : ∃ A, A = w.heap.size := ⟨_, rfl⟩
  have bx := hj.bx; have br := hj.br; have bb := hj.bb; have hWS := hj.size
  rw [← hA] at bx br bb hWS
  obtain ⟨R, hR⟩ : ∃ R, R = ownP x K.xs vs := ⟨_, rfl⟩
  rw [← hR]
  have hR2 : R = .ok (Ty.of x.v.k) := by rw [hR]; unfold ownP; rw [if_pos hk]
  have HRN := Lib.hid hR2
  unfold Exp.cells at hW bx
  unfold Exp.agg
  rw [e6, e7, e8, e9, hk] at hW bx
  rw [e6, e7, e8, e9, ek, hk]
  have c0 := bx.cell 0; have c1 := bx.cell 1; have c2 := bx.cell 2; have c3 := bx.cell 3; have c4 := bx.cell 4; have c5 := bx.cell 5; have c6 := bx.cell 6; have c7 := bx.cell 7; have c8 := bx.cell 8; have c9 := bx.cell 9
  simp only [List.getElem?_toArray, List.getElem?_cons_zero, List.getElem?_cons_succ] at c0 c1 c2 c3 c4 c5 c6 c7 c8 c9
  have HW := Lib.hid hW; have HA := Lib.hid hA; have HBW := Lib.hid hj.below; have BR := Lib.hid br; have BB := Lib.hid bb; have HI := Lib.hid hIW; have HPP := Lib.hid h.hP; have HWS := Lib.hid hWS; have HKD := Lib.hid hK; have HR := Lib.hid hR; have EK := Lib.hid ek; have E8 := Lib.hid e8; have HX := Lib.hid bx
  clear hW hA hj br bb hIW hWS hR h ek e6 e7 e8 e9 bx hK
  have hvk : i64r x.v.k := HI.out.hx.val.ok.1
  clear hR2 HR hk
  go_enter Tryz.func34, Tryz.ntmps34
  go_upto_region 2 with fail
  rw [← HW.out, ← HA.out]
  go_wp2_with fail
  refine (rplain_any x.v.k W).mono ?_
  rintro e w9 ⟨rfl, hb9⟩
  have HB9 := Lib.hid hb9
  clear hb9
  have hbR := BR.out.below HB9.out BR.out.lt
  have hbB := BB.out.below HB9.out BB.out.lt
  have r0 := hbR.cell 0; have r1 := hbR.cell 1; have r2 := hbR.cell 2
  have s0 := hbR.frozen 0; have s1 := hbR.frozen 1; have s2 := hbR.frozen 2
  have z0 := hbB.cell 0; have z1 := hbB.cell 1; have z2 := hbB.cell 2
  simp at r0 r1 r2 z0 z1 z2
  obtain ⟨WF, hWF⟩ : ∃ WF, WF = (((w9.setCell ⟨A + 1, 0, none⟩ (.int .i64 x.v.k)).setCell ⟨A + 1, 1, none⟩ (.slice none 0 0)).setCell ⟨A + 1, 2, none⟩ (.slice none 0 0)) := ⟨_, rfl⟩
  have hres := res_storedR (u := (Ty.of x.v.k)) (k4 := none) (k5 := none) (l4 := 0) (l5 := 0) (w := w) (P := P) (R := A + 1) (by rw [← HA.out]; omega) HPP.out (HBW.out.trans (HB9.out.mono HBW.out.size)) hbR (of_in x.v.k hvk _) (of_sep _ _) rfl rfl hWF
  have HRES := Lib.hid hres; have HWF := Lib.hid hWF
  clear hres hWF hbR hbB
  go_wp2_with fail
  rw [← HWF.out]
  obtain ⟨hF, hJ⟩ := HRES.out
  have f0 := hF.cell 0; have f1 := hF.cell 1; have f2 := hF.cell 2
  simp [Ty.of, Ty.k, Ty.ns, Ty.xs] at f0 f1 f2
  refine bodyPost_ret (v := .tuple #[.agg #[.int .i64 x.v.k, .slice none 0 0, .slice none 0 0], .int .i64 0]) (by simp [results, Tryz.results34, go_sem, f0, f1, f2]) rfl ?_
  rw [HRN.out]
  exact hJ
set_option maxHeartbeats 8000000 in
set_option maxRecDepth 100000 in
theorem rown2 (x : Exp) (K : Ty) (vp : Option Addr) (vc : Nat) (vs : List Var) (P : Nat → Prop) (w : World) (h : ROwnIn x K vp vc vs P w) (hk : x.k = 2) :
    Calls Tryz.prog 34 #[x.agg, K.xa.val K.xs.length, .slice vp vs.length vc] w fun e w' => RGave (ownP x K.xs vs) P w e w' := by
  obtain ⟨W, hW⟩ : ∃ W, W = ((w.alloc (.cells x.cells.toArray 29)).alloc (.cells #[.int .i64 0, .slice none 0 0, .slice none 0 0] 36)).alloc (.cells #[.int .i64 0, .slice none 0 0, .slice none 0 0] 36) := ⟨_, rfl⟩
  have hj : G0 w W x := by rw [hW]; exact g0_start w x
  have hIW := h.below hj.below
  obtain ⟨kp, kc, ek, hK⟩ := hIW.kids
  obtain ⟨p8, q8, e8⟩ := h.hx.nslice
  obtain ⟨p9, q9, e9⟩ := h.hx.xslice
  obtain ⟨p6, q6, e6⟩ := h.hx.val.nslice
  obtain ⟨p7, q7, e7⟩ := h.hx.val.xslice
  obtain ⟨A, hA⟩ : ∃ A, A = w.heap.size := ⟨_, rfl⟩
  have bx := hj.bx; have br := hj.br; have bb := hj.bb; have hWS := hj.size
  rw [← hA] at bx br bb hWS
  obtain ⟨R, hR⟩ : ∃ R, R = ownP x K.xs vs := ⟨_, rfl⟩
  rw [← hR]
  have hR2 : R = (match vs[(nameIdx (vs.map Var.n) x.s).toNat]? with | some v => if nameIdx (vs.map Var.n) x.s < 0 then .error 11 else .ok v.t.erase | none => .error 11) := by rw [hR]; unfold ownP; rw [if_neg (by omega), if_pos hk]; rfl
  have HVS := Lib.hid h.hvs
  unfold Exp.cells at hW bx
  unfold Exp.agg
  rw [e6, e7, e8, e9, hk] at hW bx
  rw [e6, e7, e8, e9, ek, hk]
  have c0 := bx.cell 0; have c1 := bx.cell 1; have c2 := bx.cell 2; have c3 := bx.cell 3; have c4 := bx.cell 4; have c5 := bx.cell 5; have c6 := bx.cell 6; have c7 := bx.cell 7; have c8 := bx.cell 8; have c9 := bx.cell 9
  simp only [List.getElem?_toArray, List.getElem?_cons_zero, List.getElem?_cons_succ] at c0 c1 c2 c3 c4 c5 c6 c7 c8 c9
  have HW := Lib.hid hW; have HA := Lib.hid hA; have HBW := Lib.hid hj.below; have BR := Lib.hid br; have BB := Lib.hid bb; have HI := Lib.hid hIW; have HPP := Lib.hid h.hP; have HWS := Lib.hid hWS; have HKD := Lib.hid hK; have HR := Lib.hid hR; have EK := Lib.hid ek; have E8 := Lib.hid e8; have HX := Lib.hid bx
  clear hW hA hj br bb hIW hWS hR h ek e6 e7 e8 e9 bx hK
  have hF := fun (W' : World) (hb : Below W.heap.size W W') => find_any vs vp vc x.s W' (HI.out.hv.below hb)
  obtain ⟨I, hI⟩ : ∃ I, I = nameIdx (vs.map Var.n) x.s := ⟨_, rfl⟩
  have hsp := nameIdx_spec (vs.map Var.n) x.s
  rw [← hI] at hF hR2 hsp
  have HF := Lib.hid (hF W (Below.refl _ _))
  clear hF hI hk
  rcases hsp with ⟨i, hi, hIi, hni⟩ | hIi
  · subst hIi
    have hil : i < vs.length := by simpa using hi
    obtain ⟨vb, vo, evp, hpv⟩ := HI.out.hv.at_ i hil
    obtain ⟨v, hv⟩ : ∃ v, v = vs[i]'hil := ⟨_, rfl⟩
    rw [← hv] at hpv
    subst evp
    have HRN : Hid (R = .ok v.t.erase) := Lib.hid (by rw [hR2]; simp [hil, hv])
    have hvm : v ∈ vs := by rw [hv]; exact List.getElem_mem hil
    have hsep := HVS.out v hvm
    have HPV := Lib.hid hpv; have HSEP := Lib.hid hsep
    have hk0 : (0 : Int) ≤ (i : Int) := by omega
    have hk1 : (i : Int) < (vs.length : Int) := by omega
    have hcap := HI.out.hv.cap
    have hlen := HI.out.hv.len
    clear hni
    clear hR2 HR hpv hsep hv hvm hi
    go_enter Tryz.func34, Tryz.ntmps34
    go_upto_region 2 with fail
    rw [← HW.out, ← HA.out]
    go_wp2_with fail
    refine HF.out.mono ?_
    rintro e w5 ⟨rfl, hb5⟩
    have HB5 := Lib.hid hb5
    have hty := (HPV.out.below hb5).ty
    have d0 := hty.c0; have d1 := hty.c1; have d2 := hty.c2
    obtain ⟨k4, l4, f4⟩ := hty.in.nslice
    obtain ⟨k5, l5, f5⟩ := hty.in.xslice
    rw [f4] at d1; rw [f5] at d2
    have HIN := Lib.hid hty.in
    have F4 := Lib.hid f4; have F5 := Lib.hid f5
    clear hb5 hty f4 f5
    have j1 : decide ((i : Int) < 0) = false := by simp
    have hbR := BR.out.below HB5.out BR.out.lt
    have hbB := BB.out.below HB5.out BB.out.lt
    have r0 := hbR.cell 0; have r1 := hbR.cell 1; have r2 := hbR.cell 2
    have s0 := hbR.frozen 0; have s1 := hbR.frozen 1; have s2 := hbR.frozen 2
    have z0 := hbB.cell 0; have z1 := hbB.cell 1; have z2 := hbB.cell 2
    simp at r0 r1 r2 z0 z1 z2
    obtain ⟨WF, hWF⟩ : ∃ WF, WF = (((w5.setCell ⟨A + 1, 0, none⟩ (.int .i64 v.t.k)).setCell ⟨A + 1, 1, none⟩ (.slice k4 v.t.ns.length l4)).setCell ⟨A + 1, 2, none⟩ (.slice k5 v.t.xs.length l5)) := ⟨_, rfl⟩
    have hres := res_storedR (u := v.t)  (w := w) (P := P) (R := A + 1) (by rw [← HA.out]; omega) HPP.out (HBW.out.trans (HB5.out.mono HBW.out.size)) hbR HIN.out (HSEP.out.mono fun b hb => .inl hb) F4.out F5.out hWF
    have HRES := Lib.hid hres; have HWF := Lib.hid hWF
    clear hres hWF hbR hbB
    go_wp2_with fail
    rw [← HWF.out]
    obtain ⟨hF, hJ⟩ := HRES.out
    have f0 := hF.cell 0; have f1 := hF.cell 1; have f2 := hF.cell 2
    simp at f0 f1 f2
    refine bodyPost_ret (v := .tuple #[.agg #[.int .i64 v.t.k, .slice k4 v.t.ns.length l4, .slice k5 v.t.xs.length l5], .int .i64 0]) (by simp [results, Tryz.results34, go_sem, f0, f1, f2]) rfl ?_
    rw [HRN.out]
    exact hJ
  · subst hIi
    have HRN : Hid (R = .error 11) := Lib.hid (by rw [hR2]; cases vs[(-1 : Int).toNat]? <;> rfl)
    clear hR2 HR
    go_enter Tryz.func34, Tryz.ntmps34
    go_upto_region 2 with fail
    rw [← HW.out, ← HA.out]
    go_wp2_with fail
    refine HF.out.mono ?_
    rintro e w5 ⟨rfl, hb5⟩
    have HB5 := Lib.hid hb5
    clear hb5
    have hbR := BR.out.below HB5.out BR.out.lt
    have hbB := BB.out.below HB5.out BB.out.lt
    have r0 := hbR.cell 0; have r1 := hbR.cell 1; have r2 := hbR.cell 2
    have s0 := hbR.frozen 0; have s1 := hbR.frozen 1; have s2 := hbR.frozen 2
    have z0 := hbB.cell 0; have z1 := hbB.cell 1; have z2 := hbB.cell 2
    simp at r0 r1 r2 z0 z1 z2
    obtain ⟨WF, hWF⟩ : ∃ WF, WF = (((w5.setCell ⟨A + 1, 0, none⟩ (.int .i64 0)).setCell ⟨A + 1, 1, none⟩ (.slice none 0 0)).setCell ⟨A + 1, 2, none⟩ (.slice none 0 0)) := ⟨_, rfl⟩
    have hres := err_storedR (w := w) (P := P) (R := A + 1) (k := 11) (by rw [← HA.out]; omega) (HBW.out.trans (HB5.out.mono HBW.out.size)) hbR hWF
    have HRES := Lib.hid hres; have HWF := Lib.hid hWF
    clear hres hWF hbR hbB
    go_wp2_with fail
    rw [← HWF.out]
    obtain ⟨hF, hJ⟩ := HRES.out
    have f0 := hF.cell 0; have f1 := hF.cell 1; have f2 := hF.cell 2
    simp at f0 f1 f2
    refine bodyPost_ret (v := .tuple #[.agg #[.int .i64 0, .slice none 0 0, .slice none 0 0], .int .i64 11]) (by simp [results, Tryz.results34, go_sem, f0, f1, f2]) rfl ?_
    rw [HRN.out]
    exact hJ
set_option maxHeartbeats 8000000 in
set_option maxRecDepth 100000 in
theorem rown_un (x : Exp) (K : Ty) (vp : Option Addr) (vc : Nat) (vs : List Var) (P : Nat → Prop) (w : World) (h : ROwnIn x K vp vc vs P w) (hk : x.k = 3 ∨ x.k = 4 ∨ x.k = 20 ∨ x.k = 21 ∨ x.k = 22 ∨ x.k = 23) (hl : K.xs.length = 1) :
    Calls Tryz.prog 34 #[x.agg, K.xa.val K.xs.length, .slice vp vs.length vc] w fun e w' => RGave (ownP x K.xs vs) P w e w' := by
  obtain ⟨W, hW⟩ : ∃ W, W = ((w.alloc (.cells x.cells.toArray 29)).alloc (.cells #[.int .i64 0, .slice none 0 0, .slice none 0 0] 36)).alloc (.cells #[.int .i64 0, .slice none 0 0, .slice none 0 0] 36) := ⟨_, rfl⟩
  have hj : G0 w W x := by rw [hW]; exact g0_start w x
  have hIW := h.below hj.below
  obtain ⟨kp, kc, ek, hK⟩ := hIW.kids
  obtain ⟨p8, q8, e8⟩ := h.hx.nslice
  obtain ⟨p9, q9, e9⟩ := h.hx.xslice
  obtain ⟨p6, q6, e6⟩ := h.hx.val.nslice
  obtain ⟨p7, q7, e7⟩ := h.hx.val.xslice
  obtain ⟨A, hA⟩ : ∃ A, A = w.heap.size := ⟨_, rfl⟩
  have bx := hj.bx; have br := hj.br; have bb := hj.bb; have hWS := hj.size
  rw [← hA] at bx br bb hWS
  obtain ⟨R, hR⟩ : ∃ R, R = ownP x K.xs vs := ⟨_, rfl⟩
  rw [← hR]
  have hR2 : R = if (nthT K.xs 0).k ∈ wantU x.k then .ok (outU x.k (nthT K.xs 0)).erase else .error 6 := by rw [hR, own_un hl (by omega)]
  have HKS := Lib.hid h.hKS
  unfold Exp.cells at hW bx
  unfold Exp.agg
  rw [e6, e7, e8, e9] at hW bx
  rw [e6, e7, e8, e9, ek]
  rw [hl]
  have c0 := bx.cell 0; have c1 := bx.cell 1; have c2 := bx.cell 2; have c3 := bx.cell 3; have c4 := bx.cell 4; have c5 := bx.cell 5; have c6 := bx.cell 6; have c7 := bx.cell 7; have c8 := bx.cell 8; have c9 := bx.cell 9
  simp only [List.getElem?_toArray, List.getElem?_cons_zero, List.getElem?_cons_succ] at c0 c1 c2 c3 c4 c5 c6 c7 c8 c9
  have HW := Lib.hid hW; have HA := Lib.hid hA; have HBW := Lib.hid hj.below; have BR := Lib.hid br; have BB := Lib.hid bb; have HI := Lib.hid hIW; have HPP := Lib.hid h.hP; have HWS := Lib.hid hWS; have HKD := Lib.hid hK; have HR := Lib.hid hR; have EK := Lib.hid ek; have E8 := Lib.hid e8; have HX := Lib.hid bx
  clear hW hA hj br bb hIW hWS hR h ek e6 e7 e8 e9 bx hK
  obtain ⟨kb0, ko0, ekp0, hq0⟩ := HKD.out.nth (i := 0) (by rw [hl]; decide)
  obtain ⟨a, ha⟩ : ∃ a, a = nthT K.xs 0 := ⟨_, rfl⟩
  rw [← ha] at hq0
  have ham : a ∈ K.xs := by rw [ha]; simp [nthT, List.getD_eq_getElem?_getD, hl]
  rw [← ha] at hR2
  subst ekp0
  have HSA := Lib.hid (HKS.out.kid ham)
  have HQ := Lib.hid hq0
  have a0 := hq0.c0; have a1 := hq0.c1; have a2 := hq0.c2
  obtain ⟨ap4, al4, af4⟩ := hq0.in.nslice
  obtain ⟨ap5, al5, af5⟩ := hq0.in.xslice
  rw [af4] at a1; rw [af5] at a2
  try simp only [Nat.zero_mul, Nat.one_mul, Nat.add_zero] at a0 a1 a2
  have HIN := Lib.hid hq0.in; have F4 := Lib.hid af4; have F5 := Lib.hid af5
  have hcap : 1 ≤ kc := by have := HKD.out.cap; rw [hl] at this; exact this
  obtain ⟨q, hq⟩ : ∃ q, q = a.k := ⟨_, rfl⟩
  rw [← hq] at hR2 a0
  have HQE := Lib.hid hq
  clear hq0 ha ham hl HR af4 af5 hq
  rcases hk with hk | hk | hk | hk | hk | hk
  · rw [hk] at c0 hR2
    clear hk
    by_cases h2 : q = 2
    · subst h2
      have HRN : Hid (R = .ok a.erase) := Lib.hid (by rw [hR2]; simp [wantU, outU]; try rfl)
      clear hR2
      go_enter Tryz.func34, Tryz.ntmps34
      go_upto_region 2 with fail
      rw [← HW.out, ← HA.out]
      have hbR := BR.out
      have hbB := BB.out
      have r0 := hbR.cell 0; have r1 := hbR.cell 1; have r2 := hbR.cell 2
      have s0 := hbR.frozen 0; have s1 := hbR.frozen 1; have s2 := hbR.frozen 2
      have z0 := hbB.cell 0; have z1 := hbB.cell 1; have z2 := hbB.cell 2
      simp at r0 r1 r2 z0 z1 z2
      obtain ⟨WF, hWF⟩ : ∃ WF, WF = (((W.setCell ⟨A + 1, 0, none⟩ (.int .i64 2)).setCell ⟨A + 1, 1, none⟩ (.slice ap4 a.ns.length al4)).setCell ⟨A + 1, 2, none⟩ (.slice ap5 a.xs.length al5)) := ⟨_, rfl⟩
      have hres := res_storedR (u := a)  (w := w) (P := P) (R := A + 1) (by rw [← HA.out]; omega) HPP.out HBW.out hbR HIN.out (HSA.out.mono fun b hb => .inl hb) F4.out F5.out (hWF.trans (by rw [← HQE.out]))
      have HRES := Lib.hid hres; have HWF := Lib.hid hWF
      clear hres hWF hbR hbB
      go_wp2_with fail
      rw [← HWF.out]
      obtain ⟨hF, hJ⟩ := HRES.out
      have f0 := hF.cell 0; have f1 := hF.cell 1; have f2 := hF.cell 2
      simp at f0 f1 f2
      refine bodyPost_ret (v := .tuple #[.agg #[.int .i64 a.k, .slice ap4 a.ns.length al4, .slice ap5 a.xs.length al5], .int .i64 0]) (by simp [results, Tryz.results34, go_sem, f0, f1, f2]) rfl ?_
      rw [HRN.out]
      exact hJ
    by_cases h3 : q = 3
    · subst h3
      have HRN : Hid (R = .ok a.erase) := Lib.hid (by rw [hR2]; simp [wantU, outU]; try rfl)
      clear hR2
      go_enter Tryz.func34, Tryz.ntmps34
      go_upto_region 2 with fail
      rw [← HW.out, ← HA.out]
      have hbR := BR.out
      have hbB := BB.out
      have r0 := hbR.cell 0; have r1 := hbR.cell 1; have r2 := hbR.cell 2
      have s0 := hbR.frozen 0; have s1 := hbR.frozen 1; have s2 := hbR.frozen 2
      have z0 := hbB.cell 0; have z1 := hbB.cell 1; have z2 := hbB.cell 2
      simp at r0 r1 r2 z0 z1 z2
      obtain ⟨WF, hWF⟩ : ∃ WF, WF = (((W.setCell ⟨A + 1, 0, none⟩ (.int .i64 3)).setCell ⟨A + 1, 1, none⟩ (.slice ap4 a.ns.length al4)).setCell ⟨A + 1, 2, none⟩ (.slice ap5 a.xs.length al5)) := ⟨_, rfl⟩
      have hres := res_storedR (u := a)  (w := w) (P := P) (R := A + 1) (by rw [← HA.out]; omega) HPP.out HBW.out hbR HIN.out (HSA.out.mono fun b hb => .inl hb) F4.out F5.out (hWF.trans (by rw [← HQE.out]))
      have HRES := Lib.hid hres; have HWF := Lib.hid hWF
      clear hres hWF hbR hbB
      go_wp2_with fail
      rw [← HWF.out]
      obtain ⟨hF, hJ⟩ := HRES.out
      have f0 := hF.cell 0; have f1 := hF.cell 1; have f2 := hF.cell 2
      simp at f0 f1 f2
      refine bodyPost_ret (v := .tuple #[.agg #[.int .i64 a.k, .slice ap4 a.ns.length al4, .slice ap5 a.xs.length al5], .int .i64 0]) (by simp [results, Tryz.results34, go_sem, f0, f1, f2]) rfl ?_
      rw [HRN.out]
      exact hJ
    have HRN : Hid (R = .error 6) := Lib.hid (by rw [hR2]; simp [wantU, h2, h3])
    clear hR2
    have j2 : (q == 2) = false := by simpa using h2
    have j3 : (q == 3) = false := by simpa using h3
    clear h2 h3
    go_enter Tryz.func34, Tryz.ntmps34
    go_upto_region 2 with fail
    rw [← HW.out, ← HA.out]
    have hbR := BR.out
    have hbB := BB.out
    have r0 := hbR.cell 0; have r1 := hbR.cell 1; have r2 := hbR.cell 2
    have s0 := hbR.frozen 0; have s1 := hbR.frozen 1; have s2 := hbR.frozen 2
    have z0 := hbB.cell 0; have z1 := hbB.cell 1; have z2 := hbB.cell 2
    simp at r0 r1 r2 z0 z1 z2
    obtain ⟨WF, hWF⟩ : ∃ WF, WF = (((W.setCell ⟨A + 1, 0, none⟩ (.int .i64 0)).setCell ⟨A + 1, 1, none⟩ (.slice none 0 0)).setCell ⟨A + 1, 2, none⟩ (.slice none 0 0)) := ⟨_, rfl⟩
    have hres := err_storedR (w := w) (P := P) (R := A + 1) (k := 6) (by rw [← HA.out]; omega) HBW.out hbR hWF
    have HRES := Lib.hid hres; have HWF := Lib.hid hWF
    clear hres hWF hbR hbB
    go_wp2_with fail
    rw [← HWF.out]
    obtain ⟨hF, hJ⟩ := HRES.out
    have f0 := hF.cell 0; have f1 := hF.cell 1; have f2 := hF.cell 2
    simp at f0 f1 f2
    refine bodyPost_ret (v := .tuple #[.agg #[.int .i64 0, .slice none 0 0, .slice none 0 0], .int .i64 6]) (by simp [results, Tryz.results34, go_sem, f0, f1, f2]) rfl ?_
    rw [HRN.out]
    exact hJ
  · rw [hk] at c0 hR2
    clear hk
    by_cases h1 : q = 1
    · subst h1
      have HRN : Hid (R = .ok a.erase) := Lib.hid (by rw [hR2]; simp [wantU, outU]; try rfl)
      clear hR2
      go_enter Tryz.func34, Tryz.ntmps34
      go_upto_region 2 with fail
      rw [← HW.out, ← HA.out]
      have hbR := BR.out
      have hbB := BB.out
      have r0 := hbR.cell 0; have r1 := hbR.cell 1; have r2 := hbR.cell 2
      have s0 := hbR.frozen 0; have s1 := hbR.frozen 1; have s2 := hbR.frozen 2
      have z0 := hbB.cell 0; have z1 := hbB.cell 1; have z2 := hbB.cell 2
      simp at r0 r1 r2 z0 z1 z2
      obtain ⟨WF, hWF⟩ : ∃ WF, WF = (((W.setCell ⟨A + 1, 0, none⟩ (.int .i64 1)).setCell ⟨A + 1, 1, none⟩ (.slice ap4 a.ns.length al4)).setCell ⟨A + 1, 2, none⟩ (.slice ap5 a.xs.length al5)) := ⟨_, rfl⟩
      have hres := res_storedR (u := a)  (w := w) (P := P) (R := A + 1) (by rw [← HA.out]; omega) HPP.out HBW.out hbR HIN.out (HSA.out.mono fun b hb => .inl hb) F4.out F5.out (hWF.trans (by rw [← HQE.out]))
      have HRES := Lib.hid hres; have HWF := Lib.hid hWF
      clear hres hWF hbR hbB
      go_wp2_with fail
      rw [← HWF.out]
      obtain ⟨hF, hJ⟩ := HRES.out
      have f0 := hF.cell 0; have f1 := hF.cell 1; have f2 := hF.cell 2
      simp at f0 f1 f2
      refine bodyPost_ret (v := .tuple #[.agg #[.int .i64 a.k, .slice ap4 a.ns.length al4, .slice ap5 a.xs.length al5], .int .i64 0]) (by simp [results, Tryz.results34, go_sem, f0, f1, f2]) rfl ?_
      rw [HRN.out]
      exact hJ
    have HRN : Hid (R = .error 6) := Lib.hid (by rw [hR2]; simp [wantU, h1])
    clear hR2
    have j1 : (q == 1) = false := by simpa using h1
    clear h1
    go_enter Tryz.func34, Tryz.ntmps34
    go_upto_region 2 with fail
    rw [← HW.out, ← HA.out]
    have hbR := BR.out
    have hbB := BB.out
    have r0 := hbR.cell 0; have r1 := hbR.cell 1; have r2 := hbR.cell 2
    have s0 := hbR.frozen 0; have s1 := hbR.frozen 1; have s2 := hbR.frozen 2
    have z0 := hbB.cell 0; have z1 := hbB.cell 1; have z2 := hbB.cell 2
    simp at r0 r1 r2 z0 z1 z2
    obtain ⟨WF, hWF⟩ : ∃ WF, WF = (((W.setCell ⟨A + 1, 0, none⟩ (.int .i64 0)).setCell ⟨A + 1, 1, none⟩ (.slice none 0 0)).setCell ⟨A + 1, 2, none⟩ (.slice none 0 0)) := ⟨_, rfl⟩
    have hres := err_storedR (w := w) (P := P) (R := A + 1) (k := 6) (by rw [← HA.out]; omega) HBW.out hbR hWF
    have HRES := Lib.hid hres; have HWF := Lib.hid hWF
    clear hres hWF hbR hbB
    go_wp2_with fail
    rw [← HWF.out]
    obtain ⟨hF, hJ⟩ := HRES.out
    have f0 := hF.cell 0; have f1 := hF.cell 1; have f2 := hF.cell 2
    simp at f0 f1 f2
    refine bodyPost_ret (v := .tuple #[.agg #[.int .i64 0, .slice none 0 0, .slice none 0 0], .int .i64 6]) (by simp [results, Tryz.results34, go_sem, f0, f1, f2]) rfl ?_
    rw [HRN.out]
    exact hJ
  · rw [hk] at c0 hR2
    clear hk
    by_cases h5 : q = 5
    · subst h5
      have HRN : Hid (R = .ok (Ty.of 2)) := Lib.hid (by rw [hR2]; simp [wantU, outU]; try rfl)
      clear hR2
      go_enter Tryz.func34, Tryz.ntmps34
      go_upto_region 2 with fail
      rw [← HW.out, ← HA.out]
      go_wp2_with fail
      refine (rplain_any 2 W).mono ?_
      rintro e w9 ⟨rfl, hb9⟩
      have HB9 := Lib.hid hb9
      clear hb9
      have hbR := BR.out.below HB9.out BR.out.lt
      have hbB := BB.out.below HB9.out BB.out.lt
      have r0 := hbR.cell 0; have r1 := hbR.cell 1; have r2 := hbR.cell 2
      have s0 := hbR.frozen 0; have s1 := hbR.frozen 1; have s2 := hbR.frozen 2
      have z0 := hbB.cell 0; have z1 := hbB.cell 1; have z2 := hbB.cell 2
      simp at r0 r1 r2 z0 z1 z2
      obtain ⟨WF, hWF⟩ : ∃ WF, WF = (((w9.setCell ⟨A + 1, 0, none⟩ (.int .i64 2)).setCell ⟨A + 1, 1, none⟩ (.slice none 0 0)).setCell ⟨A + 1, 2, none⟩ (.slice none 0 0)) := ⟨_, rfl⟩
      have hres := res_storedR (u := (Ty.of 2)) (k4 := none) (k5 := none) (l4 := 0) (l5 := 0) (w := w) (P := P) (R := A + 1) (by rw [← HA.out]; omega) HPP.out (HBW.out.trans (HB9.out.mono HBW.out.size)) hbR (of_in 2 (by unfold i64r; decide) _) (of_sep _ _) rfl rfl hWF
      have HRES := Lib.hid hres; have HWF := Lib.hid hWF
      clear hres hWF hbR hbB
      go_wp2_with fail
      rw [← HWF.out]
      obtain ⟨hF, hJ⟩ := HRES.out
      have f0 := hF.cell 0; have f1 := hF.cell 1; have f2 := hF.cell 2
      simp [Ty.of, Ty.k, Ty.ns, Ty.xs] at f0 f1 f2
      refine bodyPost_ret (v := .tuple #[.agg #[.int .i64 2, .slice none 0 0, .slice none 0 0], .int .i64 0]) (by simp [results, Tryz.results34, go_sem, f0, f1, f2]) rfl ?_
      rw [HRN.out]
      exact hJ
    by_cases h4 : q = 4
    · subst h4
      have HRN : Hid (R = .ok (Ty.of 2)) := Lib.hid (by rw [hR2]; simp [wantU, outU]; try rfl)
      clear hR2
      go_enter Tryz.func34, Tryz.ntmps34
      go_upto_region 2 with fail
      rw [← HW.out, ← HA.out]
      go_wp2_with fail
      refine (rplain_any 2 W).mono ?_
      rintro e w9 ⟨rfl, hb9⟩
      have HB9 := Lib.hid hb9
      clear hb9
      have hbR := BR.out.below HB9.out BR.out.lt
      have hbB := BB.out.below HB9.out BB.out.lt
      have r0 := hbR.cell 0; have r1 := hbR.cell 1; have r2 := hbR.cell 2
      have s0 := hbR.frozen 0; have s1 := hbR.frozen 1; have s2 := hbR.frozen 2
      have z0 := hbB.cell 0; have z1 := hbB.cell 1; have z2 := hbB.cell 2
      simp at r0 r1 r2 z0 z1 z2
      obtain ⟨WF, hWF⟩ : ∃ WF, WF = (((w9.setCell ⟨A + 1, 0, none⟩ (.int .i64 2)).setCell ⟨A + 1, 1, none⟩ (.slice none 0 0)).setCell ⟨A + 1, 2, none⟩ (.slice none 0 0)) := ⟨_, rfl⟩
      have hres := res_storedR (u := (Ty.of 2)) (k4 := none) (k5 := none) (l4 := 0) (l5 := 0) (w := w) (P := P) (R := A + 1) (by rw [← HA.out]; omega) HPP.out (HBW.out.trans (HB9.out.mono HBW.out.size)) hbR (of_in 2 (by unfold i64r; decide) _) (of_sep _ _) rfl rfl hWF
      have HRES := Lib.hid hres; have HWF := Lib.hid hWF
      clear hres hWF hbR hbB
      go_wp2_with fail
      rw [← HWF.out]
      obtain ⟨hF, hJ⟩ := HRES.out
      have f0 := hF.cell 0; have f1 := hF.cell 1; have f2 := hF.cell 2
      simp [Ty.of, Ty.k, Ty.ns, Ty.xs] at f0 f1 f2
      refine bodyPost_ret (v := .tuple #[.agg #[.int .i64 2, .slice none 0 0, .slice none 0 0], .int .i64 0]) (by simp [results, Tryz.results34, go_sem, f0, f1, f2]) rfl ?_
      rw [HRN.out]
      exact hJ
    have HRN : Hid (R = .error 6) := Lib.hid (by rw [hR2]; simp [wantU, h5, h4])
    clear hR2
    have j5 : (q == 5) = false := by simpa using h5
    have j4 : (q == 4) = false := by simpa using h4
    clear h5 h4
    go_enter Tryz.func34, Tryz.ntmps34
    go_upto_region 2 with fail
    rw [← HW.out, ← HA.out]
    have hbR := BR.out
    have hbB := BB.out
    have r0 := hbR.cell 0; have r1 := hbR.cell 1; have r2 := hbR.cell 2
    have s0 := hbR.frozen 0; have s1 := hbR.frozen 1; have s2 := hbR.frozen 2
    have z0 := hbB.cell 0; have z1 := hbB.cell 1; have z2 := hbB.cell 2
    simp at r0 r1 r2 z0 z1 z2
    obtain ⟨WF, hWF⟩ : ∃ WF, WF = (((W.setCell ⟨A + 1, 0, none⟩ (.int .i64 0)).setCell ⟨A + 1, 1, none⟩ (.slice none 0 0)).setCell ⟨A + 1, 2, none⟩ (.slice none 0 0)) := ⟨_, rfl⟩
    have hres := err_storedR (w := w) (P := P) (R := A + 1) (k := 6) (by rw [← HA.out]; omega) HBW.out hbR hWF
    have HRES := Lib.hid hres; have HWF := Lib.hid hWF
    clear hres hWF hbR hbB
    go_wp2_with fail
    rw [← HWF.out]
    obtain ⟨hF, hJ⟩ := HRES.out
    have f0 := hF.cell 0; have f1 := hF.cell 1; have f2 := hF.cell 2
    simp at f0 f1 f2
    refine bodyPost_ret (v := .tuple #[.agg #[.int .i64 0, .slice none 0 0, .slice none 0 0], .int .i64 6]) (by simp [results, Tryz.results34, go_sem, f0, f1, f2]) rfl ?_
    rw [HRN.out]
    exact hJ
  · rw [hk] at c0 hR2
    clear hk
    by_cases h2 : q = 2
    · subst h2
      have HRN : Hid (R = .ok (Ty.of 3)) := Lib.hid (by rw [hR2]; simp [wantU, outU]; try rfl)
      clear hR2
      go_enter Tryz.func34, Tryz.ntmps34
      go_upto_region 2 with fail
      rw [← HW.out, ← HA.out]
      go_wp2_with fail
      refine (rplain_any 3 W).mono ?_
      rintro e w9 ⟨rfl, hb9⟩
      have HB9 := Lib.hid hb9
      clear hb9
      have hbR := BR.out.below HB9.out BR.out.lt
      have hbB := BB.out.below HB9.out BB.out.lt
      have r0 := hbR.cell 0; have r1 := hbR.cell 1; have r2 := hbR.cell 2
      have s0 := hbR.frozen 0; have s1 := hbR.frozen 1; have s2 := hbR.frozen 2
      have z0 := hbB.cell 0; have z1 := hbB.cell 1; have z2 := hbB.cell 2
      simp at r0 r1 r2 z0 z1 z2
      obtain ⟨WF, hWF⟩ : ∃ WF, WF = (((w9.setCell ⟨A + 1, 0, none⟩ (.int .i64 3)).setCell ⟨A + 1, 1, none⟩ (.slice none 0 0)).setCell ⟨A + 1, 2, none⟩ (.slice none 0 0)) := ⟨_, rfl⟩
      have hres := res_storedR (u := (Ty.of 3)) (k4 := none) (k5 := none) (l4 := 0) (l5 := 0) (w := w) (P := P) (R := A + 1) (by rw [← HA.out]; omega) HPP.out (HBW.out.trans (HB9.out.mono HBW.out.size)) hbR (of_in 3 (by unfold i64r; decide) _) (of_sep _ _) rfl rfl hWF
      have HRES := Lib.hid hres; have HWF := Lib.hid hWF
      clear hres hWF hbR hbB
      go_wp2_with fail
      rw [← HWF.out]
      obtain ⟨hF, hJ⟩ := HRES.out
      have f0 := hF.cell 0; have f1 := hF.cell 1; have f2 := hF.cell 2
      simp [Ty.of, Ty.k, Ty.ns, Ty.xs] at f0 f1 f2
      refine bodyPost_ret (v := .tuple #[.agg #[.int .i64 3, .slice none 0 0, .slice none 0 0], .int .i64 0]) (by simp [results, Tryz.results34, go_sem, f0, f1, f2]) rfl ?_
      rw [HRN.out]
      exact hJ
    have HRN : Hid (R = .error 6) := Lib.hid (by rw [hR2]; simp [wantU, h2])
    clear hR2
    have j2 : (q == 2) = false := by simpa using h2
    clear h2
    go_enter Tryz.func34, Tryz.ntmps34
    go_upto_region 2 with fail
    rw [← HW.out, ← HA.out]
    have hbR := BR.out
    have hbB := BB.out
    have r0 := hbR.cell 0; have r1 := hbR.cell 1; have r2 := hbR.cell 2
    have s0 := hbR.frozen 0; have s1 := hbR.frozen 1; have s2 := hbR.frozen 2
    have z0 := hbB.cell 0; have z1 := hbB.cell 1; have z2 := hbB.cell 2
    simp at r0 r1 r2 z0 z1 z2
    obtain ⟨WF, hWF⟩ : ∃ WF, WF = (((W.setCell ⟨A + 1, 0, none⟩ (.int .i64 0)).setCell ⟨A + 1, 1, none⟩ (.slice none 0 0)).setCell ⟨A + 1, 2, none⟩ (.slice none 0 0)) := ⟨_, rfl⟩
    have hres := err_storedR (w := w) (P := P) (R := A + 1) (k := 6) (by rw [← HA.out]; omega) HBW.out hbR hWF
    have HRES := Lib.hid hres; have HWF := Lib.hid hWF
    clear hres hWF hbR hbB
    go_wp2_with fail
    rw [← HWF.out]
    obtain ⟨hF, hJ⟩ := HRES.out
    have f0 := hF.cell 0; have f1 := hF.cell 1; have f2 := hF.cell 2
    simp at f0 f1 f2
    refine bodyPost_ret (v := .tuple #[.agg #[.int .i64 0, .slice none 0 0, .slice none 0 0], .int .i64 6]) (by simp [results, Tryz.results34, go_sem, f0, f1, f2]) rfl ?_
    rw [HRN.out]
    exact hJ
  · rw [hk] at c0 hR2
    clear hk
    by_cases h3 : q = 3
    · subst h3
      have HRN : Hid (R = .ok (Ty.of 2)) := Lib.hid (by rw [hR2]; simp [wantU, outU]; try rfl)
      clear hR2
      go_enter Tryz.func34, Tryz.ntmps34
      go_upto_region 2 with fail
      rw [← HW.out, ← HA.out]
      go_wp2_with fail
      refine (rplain_any 2 W).mono ?_
      rintro e w9 ⟨rfl, hb9⟩
      have HB9 := Lib.hid hb9
      clear hb9
      have hbR := BR.out.below HB9.out BR.out.lt
      have hbB := BB.out.below HB9.out BB.out.lt
      have r0 := hbR.cell 0; have r1 := hbR.cell 1; have r2 := hbR.cell 2
      have s0 := hbR.frozen 0; have s1 := hbR.frozen 1; have s2 := hbR.frozen 2
      have z0 := hbB.cell 0; have z1 := hbB.cell 1; have z2 := hbB.cell 2
      simp at r0 r1 r2 z0 z1 z2
      obtain ⟨WF, hWF⟩ : ∃ WF, WF = (((w9.setCell ⟨A + 1, 0, none⟩ (.int .i64 2)).setCell ⟨A + 1, 1, none⟩ (.slice none 0 0)).setCell ⟨A + 1, 2, none⟩ (.slice none 0 0)) := ⟨_, rfl⟩
      have hres := res_storedR (u := (Ty.of 2)) (k4 := none) (k5 := none) (l4 := 0) (l5 := 0) (w := w) (P := P) (R := A + 1) (by rw [← HA.out]; omega) HPP.out (HBW.out.trans (HB9.out.mono HBW.out.size)) hbR (of_in 2 (by unfold i64r; decide) _) (of_sep _ _) rfl rfl hWF
      have HRES := Lib.hid hres; have HWF := Lib.hid hWF
      clear hres hWF hbR hbB
      go_wp2_with fail
      rw [← HWF.out]
      obtain ⟨hF, hJ⟩ := HRES.out
      have f0 := hF.cell 0; have f1 := hF.cell 1; have f2 := hF.cell 2
      simp [Ty.of, Ty.k, Ty.ns, Ty.xs] at f0 f1 f2
      refine bodyPost_ret (v := .tuple #[.agg #[.int .i64 2, .slice none 0 0, .slice none 0 0], .int .i64 0]) (by simp [results, Tryz.results34, go_sem, f0, f1, f2]) rfl ?_
      rw [HRN.out]
      exact hJ
    have HRN : Hid (R = .error 6) := Lib.hid (by rw [hR2]; simp [wantU, h3])
    clear hR2
    have j3 : (q == 3) = false := by simpa using h3
    clear h3
    go_enter Tryz.func34, Tryz.ntmps34
    go_upto_region 2 with fail
    rw [← HW.out, ← HA.out]
    have hbR := BR.out
    have hbB := BB.out
    have r0 := hbR.cell 0; have r1 := hbR.cell 1; have r2 := hbR.cell 2
    have s0 := hbR.frozen 0; have s1 := hbR.frozen 1; have s2 := hbR.frozen 2
    have z0 := hbB.cell 0; have z1 := hbB.cell 1; have z2 := hbB.cell 2
    simp at r0 r1 r2 z0 z1 z2
    obtain ⟨WF, hWF⟩ : ∃ WF, WF = (((W.setCell ⟨A + 1, 0, none⟩ (.int .i64 0)).setCell ⟨A + 1, 1, none⟩ (.slice none 0 0)).setCell ⟨A + 1, 2, none⟩ (.slice none 0 0)) := ⟨_, rfl⟩
    have hres := err_storedR (w := w) (P := P) (R := A + 1) (k := 6) (by rw [← HA.out]; omega) HBW.out hbR hWF
    have HRES := Lib.hid hres; have HWF := Lib.hid hWF
    clear hres hWF hbR hbB
    go_wp2_with fail
    rw [← HWF.out]
    obtain ⟨hF, hJ⟩ := HRES.out
    have f0 := hF.cell 0; have f1 := hF.cell 1; have f2 := hF.cell 2
    simp at f0 f1 f2
    refine bodyPost_ret (v := .tuple #[.agg #[.int .i64 0, .slice none 0 0, .slice none 0 0], .int .i64 6]) (by simp [results, Tryz.results34, go_sem, f0, f1, f2]) rfl ?_
    rw [HRN.out]
    exact hJ
  · rw [hk] at c0 hR2
    clear hk
    by_cases hr : 1 ≤ q ∧ q ≤ 4
    · have HRN : Hid (R = .ok (Ty.of 4)) := Lib.hid (by rw [hR2, if_pos (by simp [wantU]; omega)]; rfl)
      have j1 : decide (1 ≤ q) = true := by simp; omega
      have j2 : decide (q ≤ 4) = true := by simp; omega
      obtain ⟨i1, i2⟩ := hr
      clear hR2
      go_enter Tryz.func34, Tryz.ntmps34
      go_upto_region 2 with fail
      rw [← HW.out, ← HA.out]
      go_wp2_with fail
      refine (rplain_any 4 W).mono ?_
      rintro e w9 ⟨rfl, hb9⟩
      have HB9 := Lib.hid hb9
      clear hb9
      have hbR := BR.out.below HB9.out BR.out.lt
      have hbB := BB.out.below HB9.out BB.out.lt
      have r0 := hbR.cell 0; have r1 := hbR.cell 1; have r2 := hbR.cell 2
      have s0 := hbR.frozen 0; have s1 := hbR.frozen 1; have s2 := hbR.frozen 2
      have z0 := hbB.cell 0; have z1 := hbB.cell 1; have z2 := hbB.cell 2
      simp at r0 r1 r2 z0 z1 z2
      obtain ⟨WF, hWF⟩ : ∃ WF, WF = (((w9.setCell ⟨A + 1, 0, none⟩ (.int .i64 4)).setCell ⟨A + 1, 1, none⟩ (.slice none 0 0)).setCell ⟨A + 1, 2, none⟩ (.slice none 0 0)) := ⟨_, rfl⟩
      have hres := res_storedR (u := (Ty.of 4)) (k4 := none) (k5 := none) (l4 := 0) (l5 := 0) (w := w) (P := P) (R := A + 1) (by rw [← HA.out]; omega) HPP.out (HBW.out.trans (HB9.out.mono HBW.out.size)) hbR (of_in 4 (by unfold i64r; decide) _) (of_sep _ _) rfl rfl hWF
      have HRES := Lib.hid hres; have HWF := Lib.hid hWF
      clear hres hWF hbR hbB
      go_wp2_with fail
      rw [← HWF.out]
      obtain ⟨hF, hJ⟩ := HRES.out
      have f0 := hF.cell 0; have f1 := hF.cell 1; have f2 := hF.cell 2
      simp [Ty.of, Ty.k, Ty.ns, Ty.xs] at f0 f1 f2
      refine bodyPost_ret (v := .tuple #[.agg #[.int .i64 4, .slice none 0 0, .slice none 0 0], .int .i64 0]) (by simp [results, Tryz.results34, go_sem, f0, f1, f2]) rfl ?_
      rw [HRN.out]
      exact hJ
    have HRN : Hid (R = .error 6) := Lib.hid (by rw [hR2, if_neg (by simp [wantU]; omega)])
    clear hR2
    by_cases h1 : 1 ≤ q
    · have h2 : ¬ q ≤ 4 := by omega
      have j1 : decide (1 ≤ q) = true := by simp; omega
      have j2 : decide (q ≤ 4) = false := by simp; omega
      clear hr
      go_enter Tryz.func34, Tryz.ntmps34
      go_upto_region 2 with fail
      rw [← HW.out, ← HA.out]
      have hbR := BR.out
      have hbB := BB.out
      have r0 := hbR.cell 0; have r1 := hbR.cell 1; have r2 := hbR.cell 2
      have s0 := hbR.frozen 0; have s1 := hbR.frozen 1; have s2 := hbR.frozen 2
      have z0 := hbB.cell 0; have z1 := hbB.cell 1; have z2 := hbB.cell 2
      simp at r0 r1 r2 z0 z1 z2
      obtain ⟨WF, hWF⟩ : ∃ WF, WF = (((W.setCell ⟨A + 1, 0, none⟩ (.int .i64 0)).setCell ⟨A + 1, 1, none⟩ (.slice none 0 0)).setCell ⟨A + 1, 2, none⟩ (.slice none 0 0)) := ⟨_, rfl⟩
      have hres := err_storedR (w := w) (P := P) (R := A + 1) (k := 6) (by rw [← HA.out]; omega) HBW.out hbR hWF
      have HRES := Lib.hid hres; have HWF := Lib.hid hWF
      clear hres hWF hbR hbB
      go_wp2_with fail
      rw [← HWF.out]
      obtain ⟨hF, hJ⟩ := HRES.out
      have f0 := hF.cell 0; have f1 := hF.cell 1; have f2 := hF.cell 2
      simp at f0 f1 f2
      refine bodyPost_ret (v := .tuple #[.agg #[.int .i64 0, .slice none 0 0, .slice none 0 0], .int .i64 6]) (by simp [results, Tryz.results34, go_sem, f0, f1, f2]) rfl ?_
      rw [HRN.out]
      exact hJ
    · have j1 : decide (1 ≤ q) = false := by simp; omega
      clear hr
      go_enter Tryz.func34, Tryz.ntmps34
      go_upto_region 2 with fail
      rw [← HW.out, ← HA.out]
      have hbR := BR.out
      have hbB := BB.out
      have r0 := hbR.cell 0; have r1 := hbR.cell 1; have r2 := hbR.cell 2
      have s0 := hbR.frozen 0; have s1 := hbR.frozen 1; have s2 := hbR.frozen 2
      have z0 := hbB.cell 0; have z1 := hbB.cell 1; have z2 := hbB.cell 2
      simp at r0 r1 r2 z0 z1 z2
      obtain ⟨WF, hWF⟩ : ∃ WF, WF = (((W.setCell ⟨A + 1, 0, none⟩ (.int .i64 0)).setCell ⟨A + 1, 1, none⟩ (.slice none 0 0)).setCell ⟨A + 1, 2, none⟩ (.slice none 0 0)) := ⟨_, rfl⟩
      have hres := err_storedR (w := w) (P := P) (R := A + 1) (k := 6) (by rw [← HA.out]; omega) HBW.out hbR hWF
      have HRES := Lib.hid hres; have HWF := Lib.hid hWF
      clear hres hWF hbR hbB
      go_wp2_with fail
      rw [← HWF.out]
      obtain ⟨hF, hJ⟩ := HRES.out
      have f0 := hF.cell 0; have f1 := hF.cell 1; have f2 := hF.cell 2
      simp at f0 f1 f2
      refine bodyPost_ret (v := .tuple #[.agg #[.int .i64 0, .slice none 0 0, .slice none 0 0], .int .i64 6]) (by simp [results, Tryz.results34, go_sem, f0, f1, f2]) rfl ?_
      rw [HRN.out]
      exact hJ
end Go.Proofs.YtjpdbhhjlnmacaaGreat
