/- (*checker).own, the other cases (printed by wip/gen_cown2.py). -/
import Derived.Test.YtjpdbhhjlnmacaaGreatTcM22
import Derived.Test.YtjpdbhhjlnmacaaGreatTcM25
namespace Go.Proofs.YtjpdbhhjlnmacaaGreat
set_option linter.unusedVariables false
open Go.RowKit

set_option maxHeartbeats 8000000 in
set_option maxRecDepth 100000 in
theorem cown_rec (C b o : Nat) (x : Exp) (K : Ty) (vp : Option Addr) (vc : Nat) (vs : List Var) (P : Nat → Prop) (w : World) (h : OwnIn C b o x K vp vc vs P w) (hk : x.k = 17) :
    Calls Tryz.prog 52 #[.pointer (some ⟨C, 0, none⟩), .pointer (some ⟨b, o, none⟩), K.xa.val K.xs.length] w fun e w' => GaveE (ownP x K.xs vs) P w e w' := by
  obtain ⟨W, hW⟩ : ∃ W, W = (w.alloc (.cells #[.pointer (some ⟨b, o, none⟩)] 66)).alloc (.cells #[.int .i64 0, .slice none 0 0, .slice none 0 0] 36) := ⟨_, rfl⟩
  have hj : C0 w W b o := by rw [hW]; exact c0_start w b o
  have hIW := h.below hj.below
  obtain ⟨kp, kc, ek, hkat⟩ := titems_at hIW.hK
  rw [ek]
  obtain ⟨A, hA⟩ : ∃ A, A = w.heap.size := ⟨_, rfl⟩
  have bp := hj.bp; have br := hj.br; have hWS := hj.size
  rw [← hA] at bp br hWS
  have p0 := bp.cell 0
  simp at p0
  have HW := Lib.hid hW; have HA := Lib.hid hA; have HBW := Lib.hid hj.below; have BP := Lib.hid bp; have BR := Lib.hid br; have HI := Lib.hid hIW; have HP := Lib.hid h.hP; have HWS := Lib.hid hWS; have HKAT := Lib.hid hkat
  have x0 := hIW.hx.c0
  rw [hk] at x0
  have x8 := hIW.hx.c8
  have hcl := clone_any _ x.ns W (XNamesAt.of hIW.hx.in) hIW.hx.in.ok.2.2.1
  obtain ⟨z4, y4, g4⟩ := hIW.hx.in.nslice
  rw [g4] at x8 hcl
  obtain ⟨R, hR⟩ : ∃ R, R = ownP x K.xs vs := ⟨_, rfl⟩
  rw [← hR]
  have hR2 : R = .ok (.mk 6 .no x.ns .no (K.xs.map Ty.erase)) := by rw [hR]; unfold ownP; rw [if_neg (by omega), if_neg (by omega), if_neg (by omega), if_neg (by omega), if_pos hk]
  have HR2 := Lib.hid hR2; have HC := Lib.hid hcl; have HKS := Lib.hid h.hKS; have HXO := Lib.hid hIW.hx.in.ok
  obtain ⟨M, hM⟩ : ∃ M, M = K.xs.length := ⟨_, rfl⟩
  rw [← hM] at ek ⊢
  have HM := Lib.hid hM; have EK := Lib.hid ek
  clear hW hA hj hIW hkat hR hk ek bp br hWS h hR2 hcl g4 hM
  go_enter Tryz.func52, Tryz.ntmps52
  go_upto_region 1 with fail
  rw [← HW.out, ← HA.out]
  go_wp2_with fail
  refine HC.out.mono ?_
  rintro e w3 ⟨sn, rfl, hlie, hsep, hb3⟩
  obtain ⟨p6, q6, e6⟩ := hlie.slice
  rw [e6]
  have hKI := HI.out.hK.below hb3
  have hKok := hKI.ok
  have hu : (Ty.mk 6 sn x.ns K.xa K.xs).In w3 := by
    rw [Ty.in_iff]
    exact ⟨⟨by show i64r 6; unfold i64r; decide, HXO.out.2.2.1, hKok.2.2.1, HXO.out.2.2.2.2⟩, hlie, ((Ty.in_iff _ _).1 hKI).2.2.1, ((Ty.in_iff _ _).1 hKI).2.2.2⟩
  have hus : (Ty.mk 6 sn x.ns K.xa K.xs).Sep (fun b => P b ∨ A + 1 + 1 ≤ b) := by
    rw [Ty.sep_iff]
    refine ⟨hsep.mono (fun b hb => .inr (by have := HWS.out; omega)), ?_, fun y hy => (HKS.out.kid hy).mono (fun b hb => .inl hb)⟩
    exact (((Ty.sep_iff P K).1 HKS.out).2.1).mono (fun b hb => .inl hb)
  have HRS : Hid (R = .ok (Ty.mk 6 sn x.ns K.xa K.xs).erase) := Lib.hid (by rw [HR2.out, Ty.erase_eq]; rfl)
  have hf5 : (Ty.mk 6 sn x.ns K.xa K.xs).xa.val (Ty.mk 6 sn x.ns K.xa K.xs).xs.length = .slice kp (Ty.mk 6 sn x.ns K.xa K.xs).xs.length kc := by
    show K.xa.val K.xs.length = .slice kp K.xs.length kc
    rw [← HM.out]; exact EK.out
  obtain ⟨u, hu0⟩ : ∃ u, u = Ty.mk 6 sn x.ns K.xa K.xs := ⟨_, rfl⟩
  have hue1 : u.xs.length = M := by rw [hu0, HM.out]; rfl
  have hue2 : u.ns.length = x.ns.length := by rw [hu0]; rfl
  have hue3 : u.k = 6 := by rw [hu0]; rfl
  have hf4 : u.na.val u.ns.length = .slice p6 u.ns.length q6 := by rw [hu0]; exact e6
  rw [← hu0] at hu hus HRS hf5
  have hbr := BR.out.below (hb3) BR.out.lt
  have r0 := hbr.cell 0; have r1 := hbr.cell 1; have r2 := hbr.cell 2
  have s0 := hbr.frozen 0; have s1 := hbr.frozen 1; have s2 := hbr.frozen 2
  simp at r0 r1 r2
  obtain ⟨WF, hWF⟩ : ∃ WF, WF = ((w3.setCell ⟨A + 1, 0, none⟩ (.int .i64 u.k)).setCell ⟨A + 1, 1, none⟩ (.slice p6 u.ns.length q6)).setCell ⟨A + 1, 2, none⟩ (.slice kp u.xs.length kc) := ⟨_, rfl⟩
  have hres := res_storedE (u := u) (k4 := p6) (k5 := kp) (l4 := q6) (l5 := kc) (R := A + 1) (by rw [HA.out]; omega) HP.out (HBW.out.trans ((hb3).mono HBW.out.size)) hbr (hu) (hus) (hf4) (hf5) hWF
  have HRES := Lib.hid hres; have HWF := Lib.hid hWF
  rw [hue1, hue2, hue3] at HRES
  rw [hue1, hue2, hue3] at HWF
  clear hres hWF hbr hb3 hlie hsep hKI hKok hu hus hf4 hf5 hu0 hue1 hue2 hue3 e6
  go_wp2_with fail
  rw [← HWF.out]
  obtain ⟨hF, hJ⟩ := HRES.out
  have f0 := hF.cell 0; have f1 := hF.cell 1; have f2 := hF.cell 2
  simp at f0 f1 f2
  refine bodyPost_ret (v := .agg #[.int .i64 6, .slice p6 x.ns.length q6, .slice kp M kc]) (by simp [results, Tryz.results52, go_sem, f0, f1, f2]) rfl ?_
  rw [HRS.out]
  exact hJ

set_option maxHeartbeats 8000000 in
set_option maxRecDepth 100000 in
theorem cown_field (C b o : Nat) (x : Exp) (K : Ty) (vp : Option Addr) (vc : Nat) (vs : List Var) (P : Nat → Prop) (w : World) (h : OwnIn C b o x K vp vc vs P w) (hk : x.k = 18) (hn : K.xs.length = 1) :
    Calls Tryz.prog 52 #[.pointer (some ⟨C, 0, none⟩), .pointer (some ⟨b, o, none⟩), K.xa.val K.xs.length] w fun e w' => GaveE (ownP x K.xs vs) P w e w' := by
  obtain ⟨W, hW⟩ : ∃ W, W = (w.alloc (.cells #[.pointer (some ⟨b, o, none⟩)] 66)).alloc (.cells #[.int .i64 0, .slice none 0 0, .slice none 0 0] 36) := ⟨_, rfl⟩
  have hj : C0 w W b o := by rw [hW]; exact c0_start w b o
  have hIW := h.below hj.below
  obtain ⟨kp, kc, ek, hkat⟩ := titems_at hIW.hK
  rw [ek]
  obtain ⟨A, hA⟩ : ∃ A, A = w.heap.size := ⟨_, rfl⟩
  have bp := hj.bp; have br := hj.br; have hWS := hj.size
  rw [← hA] at bp br hWS
  have p0 := bp.cell 0
  simp at p0
  have HW := Lib.hid hW; have HA := Lib.hid hA; have HBW := Lib.hid hj.below; have BP := Lib.hid bp; have BR := Lib.hid br; have HI := Lib.hid hIW; have HP := Lib.hid h.hP; have HWS := Lib.hid hWS; have HKAT := Lib.hid hkat
  have x0 := hIW.hx.c0
  rw [hk] at x0
  obtain ⟨kb, ko, rfl, hp0⟩ := nth_at hkat (i := 0) (by omega)
  obtain ⟨a, ha⟩ : ∃ a, a = nthT K.xs 0 := ⟨_, rfl⟩
  have haa : a ∈ K.xs := by rw [ha]; exact nth_mem (by omega)
  have har := h.hKR a haa
  have hasp := h.hKS.kid haa
  rw [← ha] at hp0
  have hkc : 1 ≤ kc := by obtain ⟨_, _, _, _, h6⟩ := hkat 0 (by omega); omega
  rw [hn]
  obtain ⟨R, hR⟩ : ∃ R, R = ownP x K.xs vs := ⟨_, rfl⟩
  rw [← hR]
  have hR2 : R = if a.k = 6 then (if nameIdx a.ns x.s < 0 then .error 10 else .ok (nthT a.xs (nameIdx a.ns x.s).toNat).erase) else .error 6 := by rw [hR, ha]; unfold ownP; rw [if_neg (by omega), if_neg (by omega), if_neg (by omega), if_neg (by omega), if_neg (by omega), if_pos hk]
  have hspec := nameIdx_spec a.ns x.s
  obtain ⟨J, hJ⟩ : ∃ J, J = nameIdx a.ns x.s := ⟨_, rfl⟩
  have hsi := fun (W' : World) (hb : Below W.heap.size W W') => stridx_any a.ns _ x.s W' (TNamesAt.of (hp0.in.below hb)) hp0.in.ok.2.1
  rw [← hJ] at hR2 hspec hsi
  have hlen : a.k = 6 → a.ns.length = a.xs.length := (right_names har).1
  obtain ⟨k4, l4, f4⟩ := hp0.in.nslice
  obtain ⟨k5, l5, f5, hat5⟩ := titems_at hp0.in
  obtain ⟨W2, hW2⟩ : ∃ W2, W2 = W.alloc (.cells #[.int .i64 6] 3) := ⟨_, rfl⟩
  have hB2 : Below W.heap.size W W2 := by rw [hW2]; exact (Below.refl _ _).alloc (Nat.le_refl _) _
  have hone := one1_any a 6 W W2 hW2 hp0.in
  have a0 := hp0.c0; have a1 := hp0.c1; have a2 := hp0.c2
  rw [f4] at a1 hsi
  rw [f5] at a2
  unfold Ty.agg at hone
  rw [f4, f5] at hone
  obtain ⟨M, hM⟩ : ∃ M, M = a.xs.length := ⟨_, rfl⟩
  obtain ⟨N, hN⟩ : ∃ N, N = a.ns.length := ⟨_, rfl⟩
  rw [← hM] at a2 hone
  rw [← hN] at a1 hone hsi
  have hmb : M ≤ 2513169434843 := by rw [hM]; exact hp0.in.ok.2.2.1
  have HM := Lib.hid hM; have HN := Lib.hid hN
  have HP0 := Lib.hid hp0; have HR2 := Lib.hid hR2; have HON1 := Lib.hid hone; have HW2 := Lib.hid hW2; have HB2 := Lib.hid hB2; have HSI := Lib.hid hsi; have HSP := Lib.hid hspec; have HLEN := Lib.hid hlen; have HAT := Lib.hid hat5; have HASP := Lib.hid hasp; have F5 := Lib.hid f5; have F4 := Lib.hid f4
  clear hW hA hj hIW hkat hR hk ek bp br hWS h hp0 hR2 ha haa har hasp f4 f5 hn hone hW2 hB2 hsi hspec hlen hat5 hJ hM hN
  simp only [Nat.zero_mul, Nat.add_zero] at a0 a1 a2
  go_enter Tryz.func52, Tryz.ntmps52
  go_upto_region 1 with fail
  rw [← HW.out, ← HA.out]
  go_wp2_with fail
  rw [← HW2.out]
  refine HON1.out.mono ?_
  rintro e w3 ⟨rfl, hb3⟩
  have B3 := Lib.hid (HB2.out.trans (hb3.mono HB2.out.size))
  clear hb3 a0 a1 a2 p0 x0
  by_cases hak : a.k = 6
  case neg =>
    have HRN : Hid (R = .error 6) := Lib.hid (by rw [HR2.out, if_neg hak])
    have j : decide (a.k = 6) = false := by simpa using hak
    rw [j]
    clear j
    go_wp2_with fail
    refine (tmust_false _ _ _ rfl).mono ?_
    rintro e w4 ⟨rfl, rfl⟩
    unfold gave
    go_wp2
    refine ⟨rfl, HBW.out.trans ((B3.out).mono HBW.out.size), ?_⟩
    rw [HRN.out]
    rfl
  case pos =>
  have HR3 : Hid (R = if J < 0 then .error 10 else .ok (nthT a.xs J.toNat).erase) := Lib.hid (by rw [HR2.out, if_pos hak])
  have HL2 := Lib.hid (HLEN.out hak)
  have j : decide (a.k = 6) = true := by simpa using hak
  rw [j]
  clear j hak
  have hy1 := HP0.out.below B3.out
  have a1 := hy1.c1; have a2 := hy1.c2
  rw [F4.out, ← HN.out] at a1
  rw [F5.out, ← HM.out] at a2
  have hx1 := HI.out.hx.below B3.out
  have x1 := hx1.c1
  have hp1 := BP.out.below B3.out BP.out.lt
  have p0 := hp1.cell 0
  simp at p0
  have HC := Lib.hid (HSI.out w3.drew B3.out.drew)
  simp only [Nat.zero_mul, Nat.add_zero] at a1 a2
  clear hy1 hx1 hp1
  go_wp2_with fail
  refine (tmust_true _ _ _ rfl).mono ?_
  rintro e w4 ⟨rfl, rfl⟩
  go_wp2_with fail
  go_still_tail 8, (by kernel_rfl)
  change wpList _ _ _ _ _ w3.drew
  go_wp2_with fail
  refine HC.out.mono ?_
  rintro e w5 ⟨rfl, hw5⟩
  have B5 : Hid (Below W.heap.size W w5) := Lib.hid (by rw [← hw5]; exact B3.out.drew)
  clear hw5
  rcases HSP.out with ⟨i, hi, hji, hns⟩ | hJm
  case inr =>
    subst hJm
    have HRN : Hid (R = .error 10) := Lib.hid (by rw [HR3.out]; rfl)
    go_wp2_with fail
    refine (tmust_false _ _ _ (by decide)).mono ?_
    rintro e w6 ⟨rfl, rfl⟩
    unfold gave
    go_wp2
    refine ⟨rfl, HBW.out.trans ((B5.out).mono HBW.out.size), ?_⟩
    rw [HRN.out]
    rfl
  case inl =>
  subst hji
  have hi' : i < a.xs.length := by rw [← HL2.out]; exact hi
  have hiM : i < M := by rw [HM.out]; exact hi'
  obtain ⟨vb, vo, rfl, hpv, hlc⟩ := HAT.out i hi'
  obtain ⟨v, hv⟩ : ∃ v, v = a.xs[i]'hi' := ⟨_, rfl⟩
  have hvm : v ∈ a.xs := by rw [hv]; simp
  have HRS : Hid (R = .ok v.erase) := Lib.hid (by
    rw [HR3.out, if_neg (by omega)]
    rw [show ((i : Int)).toNat = i from rfl, hv]
    simp [nthT, hi'])
  rw [← hv] at hpv
  rw [← HM.out] at hlc
  have hpv5 := hpv.below B5.out
  have g0 := hpv5.c0; have g1 := hpv5.c1; have g2 := hpv5.c2
  obtain ⟨u4, v4, f4⟩ := hpv5.in.nslice
  obtain ⟨u5, v5, f5⟩ := hpv5.in.xslice
  rw [f4] at g1
  rw [f5] at g2
  have hk0 : (0 : Int) ≤ (i : Int) := by omega
  have hk1 : (i : Int) < (M : Int) := by omega
  have j0 : decide ((0 : Int) ≤ (i : Int)) = true := by simp
  have hy5 := HP0.out.below B5.out
  clear a1 a2
  have a2 := hy5.c2
  rw [F5.out, ← HM.out] at a2
  simp only [Nat.zero_mul, Nat.add_zero] at a2
  have hbr := BR.out.below (B5.out) BR.out.lt
  have r0 := hbr.cell 0; have r1 := hbr.cell 1; have r2 := hbr.cell 2
  have s0 := hbr.frozen 0; have s1 := hbr.frozen 1; have s2 := hbr.frozen 2
  simp at r0 r1 r2
  obtain ⟨WF, hWF⟩ : ∃ WF, WF = ((w5.setCell ⟨A + 1, 0, none⟩ (.int .i64 v.k)).setCell ⟨A + 1, 1, none⟩ (.slice u4 v.ns.length v4)).setCell ⟨A + 1, 2, none⟩ (.slice u5 v.xs.length v5) := ⟨_, rfl⟩
  have hres := res_storedE (u := v) (k4 := u4) (k5 := u5) (l4 := v4) (l5 := v5) (R := A + 1) (by rw [HA.out]; omega) HP.out (HBW.out.trans ((B5.out).mono HBW.out.size)) hbr (hpv5.in) ((HASP.out.kid hvm).mono (fun b hb => .inl hb)) (f4) (f5) hWF
  have HRES := Lib.hid hres; have HWF := Lib.hid hWF
  clear hres hWF hbr hpv hpv5 hvm hv f4 f5 hy5 hi hi' hns
  go_wp2_with fail
  refine (tmust_true _ _ _ (by simp)).mono ?_
  rintro e w6 ⟨rfl, rfl⟩
  go_wp2_with fail
  rw [← HWF.out]
  obtain ⟨hF, hJ⟩ := HRES.out
  have f0 := hF.cell 0; have f1 := hF.cell 1; have f2 := hF.cell 2
  simp at f0 f1 f2
  refine bodyPost_ret (v := .agg #[.int .i64 v.k, .slice u4 v.ns.length v4, .slice u5 v.xs.length v5]) (by simp [results, Tryz.results52, go_sem, f0, f1, f2]) rfl ?_
  rw [HRS.out]
  exact hJ

set_option maxHeartbeats 8000000 in
set_option maxRecDepth 100000 in
theorem cown_index (C b o : Nat) (x : Exp) (K : Ty) (vp : Option Addr) (vc : Nat) (vs : List Var) (P : Nat → Prop) (w : World) (h : OwnIn C b o x K vp vc vs P w) (hk : x.k = 19) (hn : K.xs.length = 2) :
    Calls Tryz.prog 52 #[.pointer (some ⟨C, 0, none⟩), .pointer (some ⟨b, o, none⟩), K.xa.val K.xs.length] w fun e w' => GaveE (ownP x K.xs vs) P w e w' := by
  obtain ⟨W, hW⟩ : ∃ W, W = (w.alloc (.cells #[.pointer (some ⟨b, o, none⟩)] 66)).alloc (.cells #[.int .i64 0, .slice none 0 0, .slice none 0 0] 36) := ⟨_, rfl⟩
  have hj : C0 w W b o := by rw [hW]; exact c0_start w b o
  have hIW := h.below hj.below
  obtain ⟨kp, kc, ek, hkat⟩ := titems_at hIW.hK
  rw [ek]
  obtain ⟨A, hA⟩ : ∃ A, A = w.heap.size := ⟨_, rfl⟩
  have bp := hj.bp; have br := hj.br; have hWS := hj.size
  rw [← hA] at bp br hWS
  have p0 := bp.cell 0
  simp at p0
  have HW := Lib.hid hW; have HA := Lib.hid hA; have HBW := Lib.hid hj.below; have BP := Lib.hid bp; have BR := Lib.hid br; have HI := Lib.hid hIW; have HP := Lib.hid h.hP; have HWS := Lib.hid hWS; have HKAT := Lib.hid hkat
  have x0 := hIW.hx.c0
  rw [hk] at x0
  obtain ⟨kb, ko, rfl, hp0⟩ := nth_at hkat (i := 0) (by omega)
  obtain ⟨a, ha⟩ : ∃ a, a = nthT K.xs 0 := ⟨_, rfl⟩
  have haa : a ∈ K.xs := by rw [ha]; exact nth_mem (by omega)
  have har := h.hKR a haa
  have hasp := h.hKS.kid haa
  rw [← ha] at hp0
  obtain ⟨kb', ko', e1, hp1⟩ := nth_at hkat (i := 1) (by omega)
  injection e1 with e1
  injection e1 with e1 e2
  subst e1 e2
  obtain ⟨y, hy⟩ : ∃ y, y = nthT K.xs 1 := ⟨_, rfl⟩
  have hay : y ∈ K.xs := by rw [hy]; exact nth_mem (by omega)
  have hayr := h.hKR y hay
  have hays := h.hKS.kid hay
  rw [← hy] at hp1
  have hkc : 2 ≤ kc := by obtain ⟨_, _, _, _, h6⟩ := hkat 0 (by omega); omega
  rw [hn]
  obtain ⟨R, hR⟩ : ∃ R, R = ownP x K.xs vs := ⟨_, rfl⟩
  rw [← hR]
  have hR2 : R = if a.k = 5 ∧ y.k = 2 ∧ (nthT a.xs 0).k ≠ 7 then .ok (nthT a.xs 0).erase else .error 6 := by rw [hR, ha, hy]; unfold ownP; rw [if_neg (by omega), if_neg (by omega), if_neg (by omega), if_neg (by omega), if_neg (by omega), if_neg (by omega), if_pos hk]
  have hlen : a.k = 5 → a.xs.length = 1 := fun h5 => by
    rw [Ty.rightB_eq, if_neg (by omega), if_pos h5] at har
    simp only [Bool.and_eq_true, decide_eq_true_eq] at har
    exact har.1.2
  obtain ⟨k4, l4, f4⟩ := hp0.in.nslice
  obtain ⟨k5, l5, f5, hat5⟩ := titems_at hp0.in
  obtain ⟨m4, n4, g4⟩ := hp1.in.nslice
  obtain ⟨m5, n5, g5⟩ := hp1.in.xslice
  obtain ⟨W2, hW2⟩ : ∃ W2, W2 = W.alloc (.cells #[.int .i64 5] 3) := ⟨_, rfl⟩
  have hB2 : Below W.heap.size W W2 := by rw [hW2]; exact (Below.refl _ _).alloc (Nat.le_refl _) _
  have hone := one1_any a 5 W W2 hW2 hp0.in
  have hone2 := fun (W' W2' : World) (hb : Below W.heap.size W W') (h2 : W2' = W'.alloc (.cells #[.int .i64 2] 3)) => one1_any y 2 W' W2' h2 (hp1.in.below hb)
  have a0 := hp0.c0; have a1 := hp0.c1; have a2 := hp0.c2
  rw [f4] at a1
  rw [f5] at a2
  unfold Ty.agg at hone hone2
  rw [f4, f5] at hone
  rw [g4, g5] at hone2
  obtain ⟨M, hM⟩ : ∃ M, M = a.xs.length := ⟨_, rfl⟩
  rw [← hM] at a2 hone
  have HM := Lib.hid hM
  have HP0 := Lib.hid hp0; have HP1 := Lib.hid hp1; have HR2 := Lib.hid hR2; have HON1 := Lib.hid hone; have HON2 := Lib.hid hone2; have HW2 := Lib.hid hW2; have HB2 := Lib.hid hB2; have HLEN := Lib.hid hlen; have HAT := Lib.hid hat5; have HASP := Lib.hid hasp; have F5 := Lib.hid f5; have F4 := Lib.hid f4; have G4 := Lib.hid g4; have G5 := Lib.hid g5
  clear hW hA hj hIW hkat hR hk ek bp br hWS h hp0 hp1 hR2 ha haa har hasp f4 f5 hn hone hone2 hW2 hB2 hlen hat5 hM g4 g5 hy hay hayr hays
  simp only [Nat.zero_mul, Nat.add_zero] at a0 a1 a2
  go_enter Tryz.func52, Tryz.ntmps52
  go_upto_region 1 with fail
  rw [← HW.out, ← HA.out]
  go_wp2_with fail
  rw [← HW2.out]
  refine HON1.out.mono ?_
  rintro e w3 ⟨rfl, hb3⟩
  have B3 := Lib.hid (HB2.out.trans (hb3.mono HB2.out.size))
  clear hb3 a0 a1 a2 p0 x0
  by_cases hak : a.k = 5
  case neg =>
    have HRN : Hid (R = .error 6) := Lib.hid (by rw [HR2.out, if_neg (fun h => hak h.1)])
    have j : decide (a.k = 5) = false := by simpa using hak
    rw [j]
    clear j
    go_wp2_with fail
    refine (tmust_false _ _ _ rfl).mono ?_
    rintro e w4 ⟨rfl, rfl⟩
    unfold gave
    go_wp2
    refine ⟨rfl, HBW.out.trans ((B3.out).mono HBW.out.size), ?_⟩
    rw [HRN.out]
    rfl
  case pos =>
  have hL2 := HLEN.out hak
  have hM1 : M = 1 := by rw [HM.out, hL2]
  subst hM1
  have j : decide (a.k = 5) = true := by simpa using hak
  rw [j]
  clear j
  have hy1 := HP1.out.below B3.out
  have b0 := hy1.c0; have b1 := hy1.c1; have b2 := hy1.c2
  rw [G4.out] at b1
  rw [G5.out] at b2
  simp only [Nat.one_mul] at b0 b1 b2
  obtain ⟨W4, hW4⟩ : ∃ W4, W4 = w3.alloc (.cells #[.int .i64 2] 3) := ⟨_, rfl⟩
  have B4 : Hid (Below W.heap.size W W4) := Lib.hid (by rw [hW4]; exact B3.out.alloc B3.out.size _)
  have HC := Lib.hid (HON2.out w3 W4 B3.out hW4)
  have HW4 := Lib.hid hW4
  clear hW4 hy1
  go_wp2_with fail
  rw [← HW4.out]
  refine HC.out.mono ?_
  rintro e w5 ⟨rfl, hb5⟩
  have B5 := Lib.hid (B4.out.trans (hb5.mono B4.out.size))
  clear hb5 b0 b1 b2
  by_cases hyk : y.k = 2
  case neg =>
    have HRN : Hid (R = .error 6) := Lib.hid (by rw [HR2.out, if_neg (fun h => hyk h.2.1)])
    have j : decide (y.k = 2) = false := by simpa using hyk
    rw [j]
    clear j
    go_wp2_with fail
    refine (tmust_false _ _ _ rfl).mono ?_
    rintro e w6 ⟨rfl, rfl⟩
    unfold gave
    go_wp2
    refine ⟨rfl, HBW.out.trans ((B5.out).mono HBW.out.size), ?_⟩
    rw [HRN.out]
    rfl
  case pos =>
  have j : decide (y.k = 2) = true := by simpa using hyk
  rw [j]
  clear j
  obtain ⟨vb, vo, rfl, hpv, hlc⟩ := HAT.out 0 (by omega)
  obtain ⟨v, hv⟩ : ∃ v, v = a.xs[0]'(by omega) := ⟨_, rfl⟩
  have hvm : v ∈ a.xs := by rw [hv]; simp
  have hnv : nthT a.xs 0 = v := by rw [hv]; simp [nthT, hL2]
  rw [← hv] at hpv
  rw [hL2] at hlc
  have HR3 : Hid (R = if v.k ≠ 7 then .ok v.erase else .error 6) := Lib.hid (by
    rw [HR2.out, hnv]
    by_cases h7 : v.k = 7
    · rw [if_neg (fun h => h.2.2 h7), if_neg (fun h => h h7)]
    · rw [if_pos ⟨hak, hyk, h7⟩, if_pos h7])
  have hpv5 := hpv.below B5.out
  have g0 := hpv5.c0; have g1 := hpv5.c1; have g2 := hpv5.c2
  obtain ⟨u4, v4, f4⟩ := hpv5.in.nslice
  obtain ⟨u5, v5, f5⟩ := hpv5.in.xslice
  rw [f4] at g1
  rw [f5] at g2
  have hy5 := HP0.out.below B5.out
  have a2 := hy5.c2
  rw [F5.out, hL2] at a2
  simp only [Nat.zero_mul, Nat.add_zero] at a2 g0 g1 g2
  obtain ⟨W6, hW6⟩ : ∃ W6, W6 = w5.alloc (.cells #[.int .i64 7] 3) := ⟨_, rfl⟩
  have B6 : Hid (Below W.heap.size W W6) := Lib.hid (by rw [hW6]; exact B5.out.alloc B5.out.size _)
  have hone3 := one1_any v 7 w5 W6 hW6 hpv5.in
  unfold Ty.agg at hone3
  rw [f4, f5] at hone3
  have HC3 := Lib.hid hone3
  have HW6 := Lib.hid hW6; have HPV := Lib.hid hpv; have HVM := Lib.hid hvm; have E4 := Lib.hid f4; have E5 := Lib.hid f5
  clear hW6 hone3 hy5 hpv5 hpv hv hnv hvm f4 f5 hak hyk
  go_wp2_with fail
  rw [← HW6.out]
  refine HC3.out.mono ?_
  rintro e w7 ⟨rfl, hb7⟩
  have B7 := Lib.hid (B6.out.trans (hb7.mono B6.out.size))
  clear hb7 a2 g0 g1 g2
  by_cases hvk : v.k = 7
  case pos =>
    have HRN : Hid (R = .error 6) := Lib.hid (by rw [HR3.out, if_neg (fun h => h hvk)])
    have j : decide (v.k = 7) = true := by simpa using hvk
    rw [j]
    clear j
    go_wp2_with fail
    refine (tmust_false _ _ _ rfl).mono ?_
    rintro e w8 ⟨rfl, rfl⟩
    unfold gave
    go_wp2
    refine ⟨rfl, HBW.out.trans ((B7.out).mono HBW.out.size), ?_⟩
    rw [HRN.out]
    rfl
  case neg =>
  have HRS : Hid (R = .ok v.erase) := Lib.hid (by rw [HR3.out, if_pos hvk])
  have j : decide (v.k = 7) = false := by simpa using hvk
  rw [j]
  clear j hvk
  have hpv7 := HPV.out.below B7.out
  have g0 := hpv7.c0; have g1 := hpv7.c1; have g2 := hpv7.c2
  rw [E4.out] at g1
  rw [E5.out] at g2
  have hy7 := HP0.out.below B7.out
  have a2 := hy7.c2
  rw [F5.out, hL2] at a2
  simp only [Nat.zero_mul, Nat.add_zero] at a2 g0 g1 g2
  have hbr := BR.out.below (B7.out) BR.out.lt
  have r0 := hbr.cell 0; have r1 := hbr.cell 1; have r2 := hbr.cell 2
  have s0 := hbr.frozen 0; have s1 := hbr.frozen 1; have s2 := hbr.frozen 2
  simp at r0 r1 r2
  obtain ⟨WF, hWF⟩ : ∃ WF, WF = ((w7.setCell ⟨A + 1, 0, none⟩ (.int .i64 v.k)).setCell ⟨A + 1, 1, none⟩ (.slice u4 v.ns.length v4)).setCell ⟨A + 1, 2, none⟩ (.slice u5 v.xs.length v5) := ⟨_, rfl⟩
  have hres := res_storedE (u := v) (k4 := u4) (k5 := u5) (l4 := v4) (l5 := v5) (R := A + 1) (by rw [HA.out]; omega) HP.out (HBW.out.trans ((B7.out).mono HBW.out.size)) hbr (hpv7.in) ((HASP.out.kid HVM.out).mono (fun b hb => .inl hb)) (E4.out) (E5.out) hWF
  have HRES := Lib.hid hres; have HWF := Lib.hid hWF
  clear hres hWF hbr hpv7 hy7 hL2
  go_wp2_with fail
  refine (tmust_true _ _ _ (by rfl)).mono ?_
  rintro e w8 ⟨rfl, rfl⟩
  go_wp2_with fail
  rw [← HWF.out]
  obtain ⟨hF, hJ⟩ := HRES.out
  have f0 := hF.cell 0; have f1 := hF.cell 1; have f2 := hF.cell 2
  simp at f0 f1 f2
  refine bodyPost_ret (v := .agg #[.int .i64 v.k, .slice u4 v.ns.length v4, .slice u5 v.xs.length v5]) (by simp [results, Tryz.results52, go_sem, f0, f1, f2]) rfl ?_
  rw [HRS.out]
  exact hJ

set_option maxHeartbeats 8000000 in
set_option maxRecDepth 100000 in
theorem cown_unary (C b o : Nat) (x : Exp) (K : Ty) (vp : Option Addr) (vc : Nat) (vs : List Var) (P : Nat → Prop) (w : World) (h : OwnIn C b o x K vp vc vs P w) (h1 : x.k ≠ 1) (h2 : x.k ≠ 2) (h15 : x.k ≠ 15) (h16 : x.k ≠ 16) (h17 : x.k ≠ 17) (h18 : x.k ≠ 18) (h19 : x.k ≠ 19) (hn : K.xs.length = 1) :
    Calls Tryz.prog 52 #[.pointer (some ⟨C, 0, none⟩), .pointer (some ⟨b, o, none⟩), K.xa.val K.xs.length] w fun e w' => GaveE (ownP x K.xs vs) P w e w' := by
  obtain ⟨W, hW⟩ : ∃ W, W = (w.alloc (.cells #[.pointer (some ⟨b, o, none⟩)] 66)).alloc (.cells #[.int .i64 0, .slice none 0 0, .slice none 0 0] 36) := ⟨_, rfl⟩
  have hj : C0 w W b o := by rw [hW]; exact c0_start w b o
  have hIW := h.below hj.below
  obtain ⟨kp, kc, ek, hkat⟩ := titems_at hIW.hK
  rw [ek]
  obtain ⟨A, hA⟩ : ∃ A, A = w.heap.size := ⟨_, rfl⟩
  have bp := hj.bp; have br := hj.br; have hWS := hj.size
  rw [← hA] at bp br hWS
  have p0 := bp.cell 0
  simp at p0
  have HW := Lib.hid hW; have HA := Lib.hid hA; have HBW := Lib.hid hj.below; have BP := Lib.hid bp; have BR := Lib.hid br; have HI := Lib.hid hIW; have HP := Lib.hid h.hP; have HWS := Lib.hid hWS; have HKAT := Lib.hid hkat
  have x0 := hIW.hx.c0
  have j1 : (x.k == 1) = false := by simpa using h1
  have j2 : (x.k == 2) = false := by simpa using h2
  have j15 : (x.k == 15) = false := by simpa using h15
  have j16 : (x.k == 16) = false := by simpa using h16
  have j17 : (x.k == 17) = false := by simpa using h17
  have j18 : (x.k == 18) = false := by simpa using h18
  have j19 : (x.k == 19) = false := by simpa using h19
  obtain ⟨kb, ko, rfl, hp0⟩ := nth_at hkat (i := 0) (by omega)
  obtain ⟨a, ha⟩ : ∃ a, a = nthT K.xs 0 := ⟨_, rfl⟩
  have haa : a ∈ K.xs := by rw [ha]; exact nth_mem (by omega)
  have har := h.hKR a haa
  have hasp := h.hKS.kid haa
  rw [← ha] at hp0
  have hkc : 1 ≤ kc := by obtain ⟨_, _, _, _, h6⟩ := hkat 0 (by omega); omega
  obtain ⟨R, hR⟩ : ∃ R, R = ownP x K.xs vs := ⟨_, rfl⟩
  rw [← hR]
  have hR2 : R = toE (unaryP x.k a) := by rw [hR, ha]; unfold ownP; rw [if_neg h1, if_neg h2, if_neg h15, if_neg h16, if_neg h17, if_neg h18, if_neg h19, if_pos hn]
  rw [hn]
  have hun := unary_any a x.k P W.drew (fun b hb => Nat.lt_of_lt_of_le (h.hP b hb) hj.below.size) (hp0.in.below (Below.refl _ _).drew) hasp
  obtain ⟨JT, hJT⟩ : ∃ JT, JT = unaryP x.k a := ⟨_, rfl⟩
  rw [← hJT] at hR2 hun
  obtain ⟨k4, l4, f4⟩ := hp0.in.nslice
  obtain ⟨k5, l5, f5⟩ := hp0.in.xslice
  have a0 := hp0.c0; have a1 := hp0.c1; have a2 := hp0.c2
  rw [f4] at a1
  rw [f5] at a2
  unfold Ty.agg at hun
  rw [f4, f5] at hun
  have HR3 := Lib.hid hR2; have HC := Lib.hid hun
  clear hW hA hj hIW hkat hR ek bp br hWS h hp0 hR2 ha haa har hasp f4 f5 hn hun hJT h1 h2 h15 h16 h17 h18 h19
  simp only [Nat.zero_mul, Nat.add_zero] at a0 a1 a2
  go_enter Tryz.func52, Tryz.ntmps52
  go_upto_region 1 with fail
  rw [← HW.out, ← HA.out]
  go_wp2_with fail
  go_still_tail 7, (by kernel_rfl)
  change wpList _ _ _ _ _ W.drew
  go_wp2_with fail
  refine HC.out.mono ?_
  have hsz3 : W.heap.size ≤ W.drew.heap.size := Nat.le_refl _
  cases JT with
  | none =>
    rintro e w5 ⟨hb5, rfl⟩
    have B5 := Lib.hid ((Below.refl _ _).drew.trans hb5)
    have HRN : Hid (R = .error 6) := Lib.hid (by rw [HR3.out]; rfl)
    clear hb5
    unfold gave
    go_wp2
    refine ⟨rfl, HBW.out.trans ((B5.out).mono HBW.out.size), ?_⟩
    rw [HRN.out]
    rfl
  | some v =>
    rintro e w5 ⟨hb5, u, rfl, hue, hui, hus⟩
    have B5 := Lib.hid ((Below.refl _ _).drew.trans hb5)
    obtain ⟨k4, l4, f4⟩ := hui.nslice
    obtain ⟨k5, l5, f5⟩ := hui.xslice
    have hag : u.agg = .agg #[.int .i64 u.k, .slice k4 u.ns.length l4, .slice k5 u.xs.length l5] := by unfold Ty.agg; rw [f4, f5]
    rw [hag]
    have HRS : Hid (R = .ok u.erase) := Lib.hid (by rw [HR3.out, hue]; rfl)
    have hsz : A + 1 + 1 ≤ W.drew.heap.size := by have := HWS.out; show A + 1 + 1 ≤ W.heap.size; omega
    have hbr := BR.out.below (B5.out) BR.out.lt
    have r0 := hbr.cell 0; have r1 := hbr.cell 1; have r2 := hbr.cell 2
    have s0 := hbr.frozen 0; have s1 := hbr.frozen 1; have s2 := hbr.frozen 2
    simp at r0 r1 r2
    obtain ⟨WF, hWF⟩ : ∃ WF, WF = ((w5.setCell ⟨A + 1, 0, none⟩ (.int .i64 u.k)).setCell ⟨A + 1, 1, none⟩ (.slice k4 u.ns.length l4)).setCell ⟨A + 1, 2, none⟩ (.slice k5 u.xs.length l5) := ⟨_, rfl⟩
    have hres := res_storedE (u := u) (k4 := k4) (k5 := k5) (l4 := l4) (l5 := l5) (R := A + 1) (by rw [HA.out]; omega) HP.out (HBW.out.trans ((B5.out).mono HBW.out.size)) hbr (hui) (hus.mono (fun b hb => by rcases hb with h | h; exact .inl h; exact .inr (by omega))) (f4) (f5) hWF
    have HRES := Lib.hid hres; have HWF := Lib.hid hWF
    clear hres hWF hbr hb5 hui hus hue hag f4 f5
    go_wp2_with fail
    rw [← HWF.out]
    obtain ⟨hF, hJ⟩ := HRES.out
    have f0 := hF.cell 0; have f1 := hF.cell 1; have f2 := hF.cell 2
    simp at f0 f1 f2
    refine bodyPost_ret (v := .agg #[.int .i64 u.k, .slice k4 u.ns.length l4, .slice k5 u.xs.length l5]) (by simp [results, Tryz.results52, go_sem, f0, f1, f2]) rfl ?_
    rw [HRS.out]
    exact hJ

set_option maxHeartbeats 8000000 in
set_option maxRecDepth 100000 in
theorem cown_binary (C b o : Nat) (x : Exp) (K : Ty) (vp : Option Addr) (vc : Nat) (vs : List Var) (P : Nat → Prop) (w : World) (h : OwnIn C b o x K vp vc vs P w) (h1 : x.k ≠ 1) (h2 : x.k ≠ 2) (h15 : x.k ≠ 15) (h16 : x.k ≠ 16) (h17 : x.k ≠ 17) (h18 : x.k ≠ 18) (h19 : x.k ≠ 19) (hn : K.xs.length = 2) :
    Calls Tryz.prog 52 #[.pointer (some ⟨C, 0, none⟩), .pointer (some ⟨b, o, none⟩), K.xa.val K.xs.length] w fun e w' => GaveE (ownP x K.xs vs) P w e w' := by
  obtain ⟨W, hW⟩ : ∃ W, W = (w.alloc (.cells #[.pointer (some ⟨b, o, none⟩)] 66)).alloc (.cells #[.int .i64 0, .slice none 0 0, .slice none 0 0] 36) := ⟨_, rfl⟩
  have hj : C0 w W b o := by rw [hW]; exact c0_start w b o
  have hIW := h.below hj.below
  obtain ⟨kp, kc, ek, hkat⟩ := titems_at hIW.hK
  rw [ek]
  obtain ⟨A, hA⟩ : ∃ A, A = w.heap.size := ⟨_, rfl⟩
  have bp := hj.bp; have br := hj.br; have hWS := hj.size
  rw [← hA] at bp br hWS
  have p0 := bp.cell 0
  simp at p0
  have HW := Lib.hid hW; have HA := Lib.hid hA; have HBW := Lib.hid hj.below; have BP := Lib.hid bp; have BR := Lib.hid br; have HI := Lib.hid hIW; have HP := Lib.hid h.hP; have HWS := Lib.hid hWS; have HKAT := Lib.hid hkat
  have x0 := hIW.hx.c0
  have j1 : (x.k == 1) = false := by simpa using h1
  have j2 : (x.k == 2) = false := by simpa using h2
  have j15 : (x.k == 15) = false := by simpa using h15
  have j16 : (x.k == 16) = false := by simpa using h16
  have j17 : (x.k == 17) = false := by simpa using h17
  have j18 : (x.k == 18) = false := by simpa using h18
  have j19 : (x.k == 19) = false := by simpa using h19
  obtain ⟨kb, ko, rfl, hp0⟩ := nth_at hkat (i := 0) (by omega)
  obtain ⟨a, ha⟩ : ∃ a, a = nthT K.xs 0 := ⟨_, rfl⟩
  have haa : a ∈ K.xs := by rw [ha]; exact nth_mem (by omega)
  have har := h.hKR a haa
  have hasp := h.hKS.kid haa
  rw [← ha] at hp0
  obtain ⟨kb', ko', e1, hp1⟩ := nth_at hkat (i := 1) (by omega)
  injection e1 with e1
  injection e1 with e1 e2
  subst e1 e2
  obtain ⟨y, hy⟩ : ∃ y, y = nthT K.xs 1 := ⟨_, rfl⟩
  have hay : y ∈ K.xs := by rw [hy]; exact nth_mem (by omega)
  have hayr := h.hKR y hay
  have hays := h.hKS.kid hay
  rw [← hy] at hp1
  have hkc : 2 ≤ kc := by obtain ⟨_, _, _, _, h6⟩ := hkat 0 (by omega); omega
  obtain ⟨R, hR⟩ : ∃ R, R = ownP x K.xs vs := ⟨_, rfl⟩
  rw [← hR]
  have hR2 : R = toE (binaryP x.k a y) := by rw [hR, ha, hy]; unfold ownP; rw [if_neg h1, if_neg h2, if_neg h15, if_neg h16, if_neg h17, if_neg h18, if_neg h19, if_neg (by omega)]
  rw [hn]
  have hun := binary_any a y x.k P W.drew (fun b hb => Nat.lt_of_lt_of_le (h.hP b hb) hj.below.size) (hp0.in.below (Below.refl _ _).drew) (hp1.in.below (Below.refl _ _).drew) ⟨1, har⟩ ⟨1, hayr⟩ hasp hays
  obtain ⟨JT, hJT⟩ : ∃ JT, JT = binaryP x.k a y := ⟨_, rfl⟩
  rw [← hJT] at hR2 hun
  obtain ⟨k4, l4, f4⟩ := hp0.in.nslice
  obtain ⟨k5, l5, f5⟩ := hp0.in.xslice
  obtain ⟨m4, n4, g4⟩ := hp1.in.nslice
  obtain ⟨m5, n5, g5⟩ := hp1.in.xslice
  have a0 := hp0.c0; have a1 := hp0.c1; have a2 := hp0.c2
  have b0 := hp1.c0; have b1 := hp1.c1; have b2 := hp1.c2
  rw [f4] at a1
  rw [f5] at a2
  rw [g4] at b1
  rw [g5] at b2
  unfold Ty.agg at hun
  rw [f4, f5, g4, g5] at hun
  have HR3 := Lib.hid hR2; have HC := Lib.hid hun
  clear hW hA hj hIW hkat hR ek bp br hWS h hp0 hp1 hR2 ha haa har hasp f4 f5 g4 g5 hy hay hayr hays hn hun hJT h1 h2 h15 h16 h17 h18 h19
  simp only [Nat.zero_mul, Nat.add_zero, Nat.one_mul] at a0 a1 a2 b0 b1 b2
  go_enter Tryz.func52, Tryz.ntmps52
  go_upto_region 1 with fail
  rw [← HW.out, ← HA.out]
  go_wp2_with fail
  go_still_tail 10, (by kernel_rfl)
  change wpList _ _ _ _ _ W.drew
  go_wp2_with fail
  refine HC.out.mono ?_
  have hsz3 : W.heap.size ≤ W.drew.heap.size := Nat.le_refl _
  cases JT with
  | none =>
    rintro e w5 ⟨hb5, rfl⟩
    have B5 := Lib.hid ((Below.refl _ _).drew.trans hb5)
    have HRN : Hid (R = .error 6) := Lib.hid (by rw [HR3.out]; rfl)
    clear hb5
    unfold gave
    go_wp2
    refine ⟨rfl, HBW.out.trans ((B5.out).mono HBW.out.size), ?_⟩
    rw [HRN.out]
    rfl
  | some v =>
    rintro e w5 ⟨hb5, u, rfl, hue, hui, hus⟩
    have B5 := Lib.hid ((Below.refl _ _).drew.trans hb5)
    obtain ⟨k4, l4, f4⟩ := hui.nslice
    obtain ⟨k5, l5, f5⟩ := hui.xslice
    have hag : u.agg = .agg #[.int .i64 u.k, .slice k4 u.ns.length l4, .slice k5 u.xs.length l5] := by unfold Ty.agg; rw [f4, f5]
    rw [hag]
    have HRS : Hid (R = .ok u.erase) := Lib.hid (by rw [HR3.out, hue]; rfl)
    have hsz : A + 1 + 1 ≤ W.drew.heap.size := by have := HWS.out; show A + 1 + 1 ≤ W.heap.size; omega
    have hbr := BR.out.below (B5.out) BR.out.lt
    have r0 := hbr.cell 0; have r1 := hbr.cell 1; have r2 := hbr.cell 2
    have s0 := hbr.frozen 0; have s1 := hbr.frozen 1; have s2 := hbr.frozen 2
    simp at r0 r1 r2
    obtain ⟨WF, hWF⟩ : ∃ WF, WF = ((w5.setCell ⟨A + 1, 0, none⟩ (.int .i64 u.k)).setCell ⟨A + 1, 1, none⟩ (.slice k4 u.ns.length l4)).setCell ⟨A + 1, 2, none⟩ (.slice k5 u.xs.length l5) := ⟨_, rfl⟩
    have hres := res_storedE (u := u) (k4 := k4) (k5 := k5) (l4 := l4) (l5 := l5) (R := A + 1) (by rw [HA.out]; omega) HP.out (HBW.out.trans ((B5.out).mono HBW.out.size)) hbr (hui) (hus.mono (fun b hb => by rcases hb with h | h; exact .inl h; exact .inr (by omega))) (f4) (f5) hWF
    have HRES := Lib.hid hres; have HWF := Lib.hid hWF
    clear hres hWF hbr hb5 hui hus hue hag f4 f5
    go_wp2_with fail
    rw [← HWF.out]
    obtain ⟨hF, hJ⟩ := HRES.out
    have f0 := hF.cell 0; have f1 := hF.cell 1; have f2 := hF.cell 2
    simp at f0 f1 f2
    refine bodyPost_ret (v := .agg #[.int .i64 u.k, .slice k4 u.ns.length l4, .slice k5 u.xs.length l5]) (by simp [results, Tryz.results52, go_sem, f0, f1, f2]) rfl ?_
    rw [HRS.out]
    exact hJ
end Go.Proofs.YtjpdbhhjlnmacaaGreat
