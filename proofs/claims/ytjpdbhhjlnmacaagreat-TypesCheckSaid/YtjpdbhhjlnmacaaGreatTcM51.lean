/- basculeref09.own: a record, a field, an item, two kids (printed by wip/gen_refown.py). -/
import Derived.Test.YtjpdbhhjlnmacaaGreatTcM49
import Derived.RegionTactic
import Derived.Deep.AppendLies
namespace Go.Proofs.YtjpdbhhjlnmacaaGreat
set_option linter.unusedVariables false
open Go.RowKit

/-- What came back, type and error at once. -/
def RGaveK (r : Except Int Ty) (u : Ty) (k : Int) : Prop := (k = 0 ∧ r = .ok u.erase) ∨ (r = .error k ∧ u = Ty.zero)
theorem RGave.any {r : Except Int Ty} {P : Nat → Prop} {w w' : World} {e : Ending} (h : RGave r P w e w') : ∃ (u : Ty) (k : Int), e = .returned (.tuple #[u.agg, .int .i64 k]) ∧ u.In w' ∧ u.Sep (fun b => P b ∨ w.heap.size ≤ b) ∧ Below w.heap.size w w' ∧ RGaveK r u k := by
  obtain ⟨h1, h2⟩ := h
  cases r with
  | error k => exact ⟨Ty.zero, k, h2, tzero_in _, tzero_sep _, h1, .inr ⟨rfl, rfl⟩⟩
  | ok v =>
    obtain ⟨u, a, b, c, d⟩ := h2
    exact ⟨u, 0, a, c, d, h1, .inl ⟨rfl, by rw [b]⟩⟩
theorem res_storedK {r : Except Int Ty} {k : Int} {w W WF : World} {u : Ty} {P : Nat → Prop} {R : Nat} {k4 k5 : Option Addr} {l4 l5 : Nat} {x0 x1 x2 : Value} (hk : RGaveK r u k) (hA : w.heap.size ≤ R) (hP : ∀ b, P b → b < w.heap.size) (hB : Below w.heap.size w W) (hr : Blk W R 36 #[x0, x1, x2]) (hi : u.In W) (hs : u.Sep (fun b => P b ∨ (w.heap.size ≤ b ∧ b ≠ R)))
    (f4 : u.na.val u.ns.length = .slice k4 u.ns.length l4) (f5 : u.xa.val u.xs.length = .slice k5 u.xs.length l5) (hWF : WF = ((W.setCell ⟨R, 0, none⟩ (.int .i64 u.k)).setCell ⟨R, 1, none⟩ (.slice k4 u.ns.length l4)).setCell ⟨R, 2, none⟩ (.slice k5 u.xs.length l5)) :
    Blk WF R 36 #[.int .i64 u.k, .slice k4 u.ns.length l4, .slice k5 u.xs.length l5] ∧ RGave r P w (.returned (.tuple #[.agg #[.int .i64 u.k, .slice k4 u.ns.length l4, .slice k5 u.xs.length l5], .int .i64 k])) WF := by
  have h := res_storedR hA hP hB hr hi hs f4 f5 hWF
  rcases hk with ⟨rfl, rfl⟩ | ⟨rfl, rfl⟩
  · exact h
  · refine ⟨h.1, h.2.1, ?_⟩
    show Ending.returned _ = Ending.returned _
    rw [← f4, ← f5]

set_option maxHeartbeats 8000000 in
set_option maxRecDepth 100000 in
theorem rown17 (x : Exp) (K : Ty) (vp : Option Addr) (vc : Nat) (vs : List Var) (P : Nat → Prop) (w : World) (h : ROwnIn x K vp vc vs P w) (hk : x.k = 17) :
    Calls Tryz.prog 34 #[x.agg, K.xa.val K.xs.length, .slice vp vs.length vc] w fun e w' => RGave (ownP x K.xs vs) P w e w' := by
  obtain ⟨W, hW⟩ : ∃ W, W = ((w.alloc (.cells x.cells.toArray 29)).alloc (.cells #[.int .i64 0, .slice none 0 0, .slice none 0 0] 36)).alloc (.cells #[.int .i64 0, .slice none 0 0, .slice none 0 0] 36) := ⟨_, rfl⟩
  have hj : G0 w W x := by rw [hW]; exact g0_start w x
  have hIW := h.below hj.below
  obtain ⟨kp, kc, ek, hK⟩ := hIW.kids
  obtain ⟨p8, q8, e8⟩ := h.hx.nslice
  obtain ⟨p9, q9, e9⟩ := h.hx.xslice
  obtain ⟨p6, q6, e6⟩ := h.hx.val.nslice
  obtain ⟨p7, q7, e7⟩ := h.hx.val.xslice
  obtain ⟨A, hA⟩ : ∃ A, A = w.heap.size := ⟨_, rfl⟩
  have bx := hj.bx; have br := hj.br; have bb := hj.bb; have hWS := hj.size
  rw [← hA] at bx br bb hWS
  obtain ⟨R, hR⟩ : ∃ R, R = ownP x K.xs vs := ⟨_, rfl⟩
  rw [← hR]
  unfold Exp.cells at hW bx
  unfold Exp.agg
  rw [e6, e7, e8, e9, hk] at hW bx
  rw [e6, e7, e8, e9, ek, hk]
  have c0 := bx.cell 0; have c1 := bx.cell 1; have c2 := bx.cell 2; have c3 := bx.cell 3; have c4 := bx.cell 4; have c5 := bx.cell 5; have c6 := bx.cell 6; have c7 := bx.cell 7; have c8 := bx.cell 8; have c9 := bx.cell 9
  simp only [List.getElem?_toArray, List.getElem?_cons_zero, List.getElem?_cons_succ] at c0 c1 c2 c3 c4 c5 c6 c7 c8 c9
  have HW := Lib.hid hW; have HA := Lib.hid hA; have HBW := Lib.hid hj.below; have BR := Lib.hid br; have BB := Lib.hid bb; have HI := Lib.hid hIW; have HPP := Lib.hid h.hP; have HWS := Lib.hid hWS; have HKD := Lib.hid hK; have HR := Lib.hid hR; have EK := Lib.hid ek; have E8 := Lib.hid e8; have HX := Lib.hid bx
  clear hW hA hj br bb hIW hWS hR h ek e6 e7 e8 e9 bx hK
  have HRN : Hid (R = .ok (Ty.mk 6 x.na x.ns K.xa K.xs).erase) := Lib.hid (by rw [HR.out, Ty.erase_eq]; unfold ownP; rw [if_neg (by omega), if_neg (by omega), if_neg (by omega), if_neg (by omega), if_pos hk]; rfl)
  have hin : (Ty.mk 6 x.na x.ns K.xa K.xs).In W := by
    rw [Ty.in_iff]
    exact ⟨⟨by show i64r 6; unfold i64r; decide, HI.out.hx.ok.2.2.1, HI.out.hK.ok.2.2.1, HI.out.hx.ok.2.2.2.2⟩, ((Exp.in_iff _ _).1 HI.out.hx).2.2.1, ((Ty.in_iff _ _).1 HI.out.hK).2.2.1, ((Ty.in_iff _ _).1 HI.out.hK).2.2.2⟩
  have hsp : (Ty.mk 6 x.na x.ns K.xa K.xs).Sep P := by
    rw [Ty.sep_iff]
    exact ⟨((Exp.sep_iff _ _).1 HI.out.hxs).2.1, ((Ty.sep_iff _ _).1 HI.out.hKS).2.1, fun y hy => HI.out.hKS.kid hy⟩
  have HIN := Lib.hid hin; have HSP := Lib.hid hsp
  clear hin hsp hk HR
  go_enter Tryz.func34, Tryz.ntmps34
  go_upto_region 2 with fail
  rw [← HW.out, ← HA.out]
  have hbR := BR.out
  have hbB := BB.out
  have r0 := hbR.cell 0; have r1 := hbR.cell 1; have r2 := hbR.cell 2
  have s0 := hbR.frozen 0; have s1 := hbR.frozen 1; have s2 := hbR.frozen 2
  have z0 := hbB.cell 0; have z1 := hbB.cell 1; have z2 := hbB.cell 2
  simp at r0 r1 r2 z0 z1 z2
  obtain ⟨WF, hWF⟩ : ∃ WF, WF = (((W.setCell ⟨A + 1, 0, none⟩ (.int .i64 6)).setCell ⟨A + 1, 1, none⟩ (.slice p8 x.ns.length q8)).setCell ⟨A + 1, 2, none⟩ (.slice kp K.xs.length kc)) := ⟨_, rfl⟩
  have hres := res_storedR (u := (Ty.mk 6 x.na x.ns K.xa K.xs)) (k4 := p8) (l4 := q8) (k5 := kp) (l5 := kc) (w := w) (P := P) (R := A + 1) (by rw [← HA.out]; omega) HPP.out HBW.out hbR HIN.out (HSP.out.mono fun b hb => .inl hb) E8.out EK.out hWF
  have HRES := Lib.hid hres; have HWF := Lib.hid hWF
  clear hres hWF hbR hbB
  go_wp2_with fail
  rw [← HWF.out]
  obtain ⟨hF, hJ⟩ := HRES.out
  have hF : Blk WF (A + 1) 36 #[.int .i64 6, .slice p8 x.ns.length q8, .slice kp K.xs.length kc] := hF; have f0 := hF.cell 0; have f1 := hF.cell 1; have f2 := hF.cell 2
  simp at f0 f1 f2
  refine bodyPost_ret (v := .tuple #[.agg #[.int .i64 6, .slice p8 x.ns.length q8, .slice kp K.xs.length kc], .int .i64 0]) (by simp [results, Tryz.results34, go_sem, f0, f1, f2]) rfl ?_
  rw [HRN.out]
  exact hJ
set_option maxHeartbeats 8000000 in
set_option maxRecDepth 100000 in
theorem rown18 (x : Exp) (K : Ty) (vp : Option Addr) (vc : Nat) (vs : List Var) (P : Nat → Prop) (w : World) (h : ROwnIn x K vp vc vs P w) (hk : x.k = 18) (hl : K.xs.length = 1) :
    Calls Tryz.prog 34 #[x.agg, K.xa.val K.xs.length, .slice vp vs.length vc] w fun e w' => RGave (ownP x K.xs vs) P w e w' := by
  obtain ⟨W, hW⟩ : ∃ W, W = ((w.alloc (.cells x.cells.toArray 29)).alloc (.cells #[.int .i64 0, .slice none 0 0, .slice none 0 0] 36)).alloc (.cells #[.int .i64 0, .slice none 0 0, .slice none 0 0] 36) := ⟨_, rfl⟩
  have hj : G0 w W x := by rw [hW]; exact g0_start w x
  have hIW := h.below hj.below
  obtain ⟨kp, kc, ek, hK⟩ := hIW.kids
  obtain ⟨p8, q8, e8⟩ := h.hx.nslice
  obtain ⟨p9, q9, e9⟩ := h.hx.xslice
  obtain ⟨p6, q6, e6⟩ := h.hx.val.nslice
  obtain ⟨p7, q7, e7⟩ := h.hx.val.xslice
  obtain ⟨A, hA⟩ : ∃ A, A = w.heap.size := ⟨_, rfl⟩
  have bx := hj.bx; have br := hj.br; have bb := hj.bb; have hWS := hj.size
  rw [← hA] at bx br bb hWS
  obtain ⟨R, hR⟩ : ∃ R, R = ownP x K.xs vs := ⟨_, rfl⟩
  rw [← hR]
  have hR2 : R = fieldP (nthT K.xs 0) x.s := by rw [hR]; unfold ownP; rw [if_neg (by omega), if_neg (by omega), if_neg (by omega), if_neg (by omega), if_neg (by omega), if_pos hk]; rfl
  have HEE := Lib.hid (And.intro e6 (And.intro e7 (And.intro e8 e9)))
  unfold Exp.cells at hW bx
  unfold Exp.agg
  rw [e6, e7, e8, e9, hk] at hW bx
  rw [e6, e7, e8, e9, ek, hk]
  rw [hl]
  have c0 := bx.cell 0; have c1 := bx.cell 1; have c2 := bx.cell 2; have c3 := bx.cell 3; have c4 := bx.cell 4; have c5 := bx.cell 5; have c6 := bx.cell 6; have c7 := bx.cell 7; have c8 := bx.cell 8; have c9 := bx.cell 9
  simp only [List.getElem?_toArray, List.getElem?_cons_zero, List.getElem?_cons_succ] at c0 c1 c2 c3 c4 c5 c6 c7 c8 c9
  have HW := Lib.hid hW; have HA := Lib.hid hA; have HBW := Lib.hid hj.below; have BR := Lib.hid br; have BB := Lib.hid bb; have HI := Lib.hid hIW; have HPP := Lib.hid h.hP; have HWS := Lib.hid hWS; have HKD := Lib.hid hK; have HR := Lib.hid hR; have EK := Lib.hid ek; have E8 := Lib.hid e8; have HX := Lib.hid bx
  clear hW hA hj br bb hIW hWS hR h ek e6 e7 e8 e9 bx hK
  obtain ⟨kb0, ko0, ekp0, hq0⟩ := HKD.out.nth (i := 0) (by rw [hl]; decide)
  obtain ⟨a, ha⟩ : ∃ a, a = nthT K.xs 0 := ⟨_, rfl⟩
  rw [← ha] at hq0
  have ham : a ∈ K.xs := by rw [ha]; simp [nthT, List.getD_eq_getElem?_getD, hl]
  subst ekp0
  rw [← ha] at hR2
  have hra := HI.out.hKR a ham
  have hfl := fun (W' : World) (hb : Below W.heap.size W W') => tfield_any x a P W' (fun b hb' => by have := HI.out.hP b hb'; have := hb.size; omega) (HI.out.hx.below hb) (hq0.in.below hb) (HI.out.hKS.kid ham) (right_names hra).1
  unfold Exp.agg Ty.agg at hfl
  have a0 := hq0.c0; have a1 := hq0.c1; have a2 := hq0.c2
  obtain ⟨ap4, al4, af4⟩ := hq0.in.nslice
  obtain ⟨ap5, al5, af5⟩ := hq0.in.xslice
  rw [af4] at a1; rw [af5] at a2
  try simp only [Nat.zero_mul, Nat.one_mul, Nat.add_zero] at a0 a1 a2
  have EE := HEE.out
  rw [EE.1, EE.2.1, EE.2.2.1, EE.2.2.2, hk, af4, af5, ← hR2] at hfl
  have hkb := hq0.2.1
  have hcap : 1 ≤ kc := by have := HKD.out.cap; rw [hl] at this; exact this
  have HFL := Lib.hid hfl
  clear hfl hq0 ha ham hra EE HEE hk hl hR2 HR af4 af5
  go_enter Tryz.func34, Tryz.ntmps34
  go_upto_region 2 with fail
  rw [← HW.out, ← HA.out]
  go_wp2_with fail
  go_region_law (first
    | (go_simp; go_at_call 56; refine (HFL.out _ (Below.refl _ _).drew).mono ?_; rintro e w5 hg; obtain ⟨u, k, rfl, hui, hus, hb5, hgk⟩ := hg.any;
       obtain ⟨k4, l4, f4⟩ := hui.nslice; obtain ⟨k5, l5, f5⟩ := hui.xslice; unfold Ty.agg; rw [f4, f5];
       have HB5 := Lib.hid ((Below.refl W.heap.size W).drew.trans hb5);
       have hbR := BR.out.below HB5.out BR.out.lt; have hbB := BB.out.below HB5.out BB.out.lt; have r0 := hbR.cell 0; have r1 := hbR.cell 1; have r2 := hbR.cell 2; have s0 := hbR.frozen 0; have s1 := hbR.frozen 1; have s2 := hbR.frozen 2; have z0 := hbB.cell 0; have z1 := hbB.cell 1; have z2 := hbB.cell 2; simp at r0 r1 r2 z0 z1 z2;
       obtain ⟨WF, hWF⟩ : ∃ WF, WF = (((w5.setCell ⟨A + 1, 0, none⟩ (.int .i64 u.k)).setCell ⟨A + 1, 1, none⟩ (.slice k4 u.ns.length l4)).setCell ⟨A + 1, 2, none⟩ (.slice k5 u.xs.length l5)) := ⟨_, rfl⟩;
       have hres := res_storedK (w := w) (P := P) (R := A + 1) hgk (by rw [← HA.out]; omega) HPP.out (HBW.out.trans (HB5.out.mono HBW.out.size)) hbR hui (hus.mono (fun b hb => by rcases hb with hb | hb; exact .inl hb; exact .inr (by have h1 := HWS.out; have h2 := HA.out; have h3 : W.drew.heap.size = W.heap.size := rfl; omega))) f4 f5 hWF;
       have HRES := Lib.hid hres; have HWF := Lib.hid hWF; clear hres hWF hbR hbB hgk hui hus hb5 hg f4 f5))
  all_goals (go_wp2_with fail)
  all_goals (rw [← HWF.out]; obtain ⟨hF, hJ⟩ := HRES.out; have f0 := hF.cell 0; have f1 := hF.cell 1; have f2 := hF.cell 2; simp at f0 f1 f2)
  all_goals (refine bodyPost_ret (v := .tuple #[.agg #[.int .i64 u.k, .slice k4 u.ns.length l4, .slice k5 u.xs.length l5], .int .i64 k]) (by simp [results, Tryz.results34, go_sem, f0, f1, f2]) rfl ?_; exact hJ)
set_option maxHeartbeats 8000000 in
set_option maxRecDepth 100000 in
theorem rown_two (x : Exp) (K : Ty) (vp : Option Addr) (vc : Nat) (vs : List Var) (P : Nat → Prop) (w : World) (h : ROwnIn x K vp vc vs P w) (hwn : 5 ≤ x.k ∧ x.k ≤ 14) (hl : K.xs.length = 2) :
    Calls Tryz.prog 34 #[x.agg, K.xa.val K.xs.length, .slice vp vs.length vc] w fun e w' => RGave (ownP x K.xs vs) P w e w' := by
  obtain ⟨W, hW⟩ : ∃ W, W = ((w.alloc (.cells x.cells.toArray 29)).alloc (.cells #[.int .i64 0, .slice none 0 0, .slice none 0 0] 36)).alloc (.cells #[.int .i64 0, .slice none 0 0, .slice none 0 0] 36) := ⟨_, rfl⟩
  have hj : G0 w W x := by rw [hW]; exact g0_start w x
  have hIW := h.below hj.below
  obtain ⟨kp, kc, ek, hK⟩ := hIW.kids
  obtain ⟨p8, q8, e8⟩ := h.hx.nslice
  obtain ⟨p9, q9, e9⟩ := h.hx.xslice
  obtain ⟨p6, q6, e6⟩ := h.hx.val.nslice
  obtain ⟨p7, q7, e7⟩ := h.hx.val.xslice
  obtain ⟨A, hA⟩ : ∃ A, A = w.heap.size := ⟨_, rfl⟩
  have bx := hj.bx; have br := hj.br; have bb := hj.bb; have hWS := hj.size
  rw [← hA] at bx br bb hWS
  obtain ⟨R, hR⟩ : ∃ R, R = ownP x K.xs vs := ⟨_, rfl⟩
  rw [← hR]
  have hR2 : R = pairP x.k K.xs := by rw [hR]; exact pair_own hl h.hKR hwn.1 hwn.2
  unfold Exp.cells at hW bx
  unfold Exp.agg
  rw [e6, e7, e8, e9] at hW bx
  rw [e6, e7, e8, e9, ek]
  rw [hl]
  have c0 := bx.cell 0; have c1 := bx.cell 1; have c2 := bx.cell 2; have c3 := bx.cell 3; have c4 := bx.cell 4; have c5 := bx.cell 5; have c6 := bx.cell 6; have c7 := bx.cell 7; have c8 := bx.cell 8; have c9 := bx.cell 9
  simp only [List.getElem?_toArray, List.getElem?_cons_zero, List.getElem?_cons_succ] at c0 c1 c2 c3 c4 c5 c6 c7 c8 c9
  have HW := Lib.hid hW; have HA := Lib.hid hA; have HBW := Lib.hid hj.below; have BR := Lib.hid br; have BB := Lib.hid bb; have HI := Lib.hid hIW; have HPP := Lib.hid h.hP; have HWS := Lib.hid hWS; have HKD := Lib.hid hK; have HR := Lib.hid hR; have EK := Lib.hid ek; have E8 := Lib.hid e8; have HX := Lib.hid bx
  clear hW hA hj br bb hIW hWS hR h ek e6 e7 e8 e9 bx hK
  have hq1 := hwn.1; have hq2 := hwn.2
  have hpr := pair_any x.k K.xs kp kc P W HI.out.hP HKD.out hl (fun y hy => HI.out.hKS.kid hy) (fun y hy => ⟨1, HI.out.hKR y hy⟩)
  rw [← hR2, hl] at hpr
  have HPR := Lib.hid hpr
  have j1 : (x.k == 1) = false := by simp; omega
  have j2 : (x.k == 2) = false := by simp; omega
  have j3 : (x.k == 3) = false := by simp; omega
  have j4 : (x.k == 4) = false := by simp; omega
  have j15 : (x.k == 15) = false := by simp; omega
  have j16 : (x.k == 16) = false := by simp; omega
  have j17 : (x.k == 17) = false := by simp; omega
  have j18 : (x.k == 18) = false := by simp; omega
  have j19 : (x.k == 19) = false := by simp; omega
  have j20 : (x.k == 20) = false := by simp; omega
  have j21 : (x.k == 21) = false := by simp; omega
  have j22 : (x.k == 22) = false := by simp; omega
  have j23 : (x.k == 23) = false := by simp; omega
  clear hpr hwn hq1 hq2 hl hR2 HR
  go_enter Tryz.func34, Tryz.ntmps34
  go_upto_region 2 with fail
  rw [← HW.out, ← HA.out]
  go_wp2_with fail
  refine HPR.out.mono ?_
  rintro e w5 hg
  obtain ⟨u, k, rfl, hui, hus, hb5, hgk⟩ := hg.any
  obtain ⟨k4, l4, f4⟩ := hui.nslice
  obtain ⟨k5, l5, f5⟩ := hui.xslice
  unfold Ty.agg
  rw [f4, f5]
  have HB5 := Lib.hid hb5
  have hbR := BR.out.below HB5.out BR.out.lt
  have hbB := BB.out.below HB5.out BB.out.lt
  have r0 := hbR.cell 0; have r1 := hbR.cell 1; have r2 := hbR.cell 2
  have s0 := hbR.frozen 0; have s1 := hbR.frozen 1; have s2 := hbR.frozen 2
  have z0 := hbB.cell 0; have z1 := hbB.cell 1; have z2 := hbB.cell 2
  simp at r0 r1 r2 z0 z1 z2
  obtain ⟨WF, hWF⟩ : ∃ WF, WF = (((w5.setCell ⟨A + 1, 0, none⟩ (.int .i64 u.k)).setCell ⟨A + 1, 1, none⟩ (.slice k4 u.ns.length l4)).setCell ⟨A + 1, 2, none⟩ (.slice k5 u.xs.length l5)) := ⟨_, rfl⟩
  have hres := res_storedK (w := w) (P := P) (R := A + 1) hgk (by rw [← HA.out]; omega) HPP.out (HBW.out.trans (HB5.out.mono HBW.out.size)) hbR hui (hus.mono (fun b hb => by rcases hb with hb | hb; exact .inl hb; exact .inr (by have h1 := HWS.out; have h2 := HA.out; omega))) f4 f5 hWF
  have HRES := Lib.hid hres; have HWF := Lib.hid hWF
  clear hres hWF hbR hbB hgk hui hus hb5 hg f4 f5
  go_wp2_with fail
  rw [← HWF.out]
  obtain ⟨hF, hJ⟩ := HRES.out
  have f0 := hF.cell 0; have f1 := hF.cell 1; have f2 := hF.cell 2
  simp at f0 f1 f2
  refine bodyPost_ret (v := .tuple #[.agg #[.int .i64 u.k, .slice k4 u.ns.length l4, .slice k5 u.xs.length l5], .int .i64 k]) (by simp [results, Tryz.results34, go_sem, f0, f1, f2]) rfl ?_
  exact hJ
set_option maxHeartbeats 8000000 in
set_option maxRecDepth 100000 in
theorem rown19 (x : Exp) (K : Ty) (vp : Option Addr) (vc : Nat) (vs : List Var) (P : Nat → Prop) (w : World) (h : ROwnIn x K vp vc vs P w) (hk : x.k = 19) (hl : K.xs.length = 2) :
    Calls Tryz.prog 34 #[x.agg, K.xa.val K.xs.length, .slice vp vs.length vc] w fun e w' => RGave (ownP x K.xs vs) P w e w' := by
  obtain ⟨W, hW⟩ : ∃ W, W = ((w.alloc (.cells x.cells.toArray 29)).alloc (.cells #[.int .i64 0, .slice none 0 0, .slice none 0 0] 36)).alloc (.cells #[.int .i64 0, .slice none 0 0, .slice none 0 0] 36) := ⟨_, rfl⟩
  have hj : G0 w W x := by rw [hW]; exact g0_start w x
  have hIW := h.below hj.below
  obtain ⟨kp, kc, ek, hK⟩ := hIW.kids
  obtain ⟨p8, q8, e8⟩ := h.hx.nslice
  obtain ⟨p9, q9, e9⟩ := h.hx.xslice
  obtain ⟨p6, q6, e6⟩ := h.hx.val.nslice
  obtain ⟨p7, q7, e7⟩ := h.hx.val.xslice
  obtain ⟨A, hA⟩ : ∃ A, A = w.heap.size := ⟨_, rfl⟩
  have bx := hj.bx; have br := hj.br; have bb := hj.bb; have hWS := hj.size
  rw [← hA] at bx br bb hWS
  obtain ⟨R, hR⟩ : ∃ R, R = ownP x K.xs vs := ⟨_, rfl⟩
  rw [← hR]
  have hR2 : R = if (nthT K.xs 0).k = 5 ∧ (nthT K.xs 1).k = 2 ∧ (nthT (nthT K.xs 0).xs 0).k ≠ 7 then .ok (nthT (nthT K.xs 0).xs 0).erase else .error 6 := by rw [hR]; unfold ownP; rw [if_neg (by omega), if_neg (by omega), if_neg (by omega), if_neg (by omega), if_neg (by omega), if_neg (by omega), if_pos hk]
  unfold Exp.cells at hW bx
  unfold Exp.agg
  rw [e6, e7, e8, e9, hk] at hW bx
  rw [e6, e7, e8, e9, ek, hk]
  rw [hl]
  have c0 := bx.cell 0; have c1 := bx.cell 1; have c2 := bx.cell 2; have c3 := bx.cell 3; have c4 := bx.cell 4; have c5 := bx.cell 5; have c6 := bx.cell 6; have c7 := bx.cell 7; have c8 := bx.cell 8; have c9 := bx.cell 9
  simp only [List.getElem?_toArray, List.getElem?_cons_zero, List.getElem?_cons_succ] at c0 c1 c2 c3 c4 c5 c6 c7 c8 c9
  have HW := Lib.hid hW; have HA := Lib.hid hA; have HBW := Lib.hid hj.below; have BR := Lib.hid br; have BB := Lib.hid bb; have HI := Lib.hid hIW; have HPP := Lib.hid h.hP; have HWS := Lib.hid hWS; have HKD := Lib.hid hK; have HR := Lib.hid hR; have EK := Lib.hid ek; have E8 := Lib.hid e8; have HX := Lib.hid bx
  clear hW hA hj br bb hIW hWS hR h ek e6 e7 e8 e9 bx hK
  obtain ⟨kb0, ko0, ekp0, hq0⟩ := HKD.out.nth (i := 0) (by rw [hl]; decide)
  obtain ⟨a, ha⟩ : ∃ a, a = nthT K.xs 0 := ⟨_, rfl⟩
  rw [← ha] at hq0
  have ham : a ∈ K.xs := by rw [ha]; simp [nthT, List.getD_eq_getElem?_getD, hl]
  obtain ⟨kb1, ko1, ekp1, hq1⟩ := HKD.out.nth (i := 1) (by rw [hl]; decide)
  obtain ⟨d, hd⟩ : ∃ d, d = nthT K.xs 1 := ⟨_, rfl⟩
  rw [← hd] at hq1
  rw [← ha, ← hd] at hR2
  rw [ekp0] at ekp1
  injection ekp1 with ekp1
  injection ekp1 with e1 e2
  subst e1 e2
  subst ekp0
  have hra := HI.out.hKR a ham
  have HSA := Lib.hid (HI.out.hKS.kid ham)
  have a0 := hq0.c0; have a1 := hq0.c1; have a2 := hq0.c2
  obtain ⟨ap4, al4, af4⟩ := hq0.in.nslice
  obtain ⟨ap5, al5, af5⟩ := hq0.in.xslice
  rw [af4] at a1; rw [af5] at a2
  try simp only [Nat.zero_mul, Nat.one_mul, Nat.add_zero] at a0 a1 a2
  have d0 := hq1.c0; have d1 := hq1.c1; have d2 := hq1.c2
  obtain ⟨dp4, dl4, df4⟩ := hq1.in.nslice
  obtain ⟨dp5, dl5, df5⟩ := hq1.in.xslice
  rw [df4] at d1; rw [df5] at d2
  try simp only [Nat.zero_mul, Nat.one_mul, Nat.add_zero] at d0 d1 d2
  have hcap : 2 ≤ kc := by have := HKD.out.cap; rw [hl] at this; exact this
  obtain ⟨q, hq⟩ : ∃ q, q = a.k := ⟨_, rfl⟩
  obtain ⟨s, hs⟩ : ∃ s, s = d.k := ⟨_, rfl⟩
  rw [← hq, ← hs] at hR2
  rw [← hq] at a0
  rw [← hs] at d0
  obtain ⟨ip, ic, ie, hat⟩ := titems_at hq0.in
  rw [af5] at ie
  have HQ0 := Lib.hid hq0
  have hlen1 : q = 5 → a.xs.length = 1 := fun h5 => by
    rw [Ty.rightB_eq, if_neg (by omega), if_pos (by omega)] at hra
    simp only [Bool.and_eq_true, decide_eq_true_eq] at hra
    exact hra.1.2
  clear hq0 hq1 ha hd ham hk hl HR af4 df4 df5 hq hs hra
  by_cases h5 : q = 5
  · subst h5
    have hl1 := hlen1 rfl
    obtain ⟨ib, io, eip, hpi, hic⟩ := hat 0 (by omega)
    obtain ⟨y, hy⟩ : ∃ y, y = nthT a.xs 0 := ⟨_, rfl⟩
    have hy2 : a.xs[0]'(by omega) = y := by rw [hy]; simp [nthT, List.getD_eq_getElem?_getD, hl1]
    rw [hy2] at hpi
    have hym : y ∈ a.xs := by rw [← hy2]; exact List.getElem_mem _
    rw [← hy] at hR2
    injection ie with ie1 ie2 ie3
    rw [ie1, eip] at a2
    rw [hl1] at a2
    have hal : 1 ≤ al5 := by rw [ie3, ← hl1]; exact hic
    have y0 := hpi.c0; have y1 := hpi.c1; have y2 := hpi.c2
    obtain ⟨k4, l4, f4⟩ := hpi.in.nslice
    obtain ⟨k5, l5, f5⟩ := hpi.in.xslice
    rw [f4] at y1; rw [f5] at y2
    simp only [Nat.zero_mul, Nat.add_zero] at y0 y1 y2
    have HIN := Lib.hid hpi.in
    have HSY := Lib.hid (HSA.out.kid hym)
    have F4 := Lib.hid f4; have F5 := Lib.hid f5
    have HAF := Lib.hid af5
    clear hlen1 hl1 hat hpi hic hy hy2 hym ie1 ie2 ie3 eip f4 f5 af5
    by_cases h2 : s = 2
    · subst h2
      by_cases h7 : y.k = 7
      · have HRN : Hid (R = .error 6) := Lib.hid (by rw [hR2]; simp [h7])
        have j1 : (y.k != 7) = false := by simp [h7]
        have j2 : (y.k == 7) = true := by simp [h7]
        clear hR2 h7
        go_enter Tryz.func34, Tryz.ntmps34
        go_upto_region 2 with fail
        rw [← HW.out, ← HA.out]
        have hbR := BR.out
        have hbB := BB.out
        have r0 := hbR.cell 0; have r1 := hbR.cell 1; have r2 := hbR.cell 2
        have s0 := hbR.frozen 0; have s1 := hbR.frozen 1; have s2 := hbR.frozen 2
        have z0 := hbB.cell 0; have z1 := hbB.cell 1; have z2 := hbB.cell 2
        simp at r0 r1 r2 z0 z1 z2
        obtain ⟨WF, hWF⟩ : ∃ WF, WF = (((W.setCell ⟨A + 1, 0, none⟩ (.int .i64 0)).setCell ⟨A + 1, 1, none⟩ (.slice none 0 0)).setCell ⟨A + 1, 2, none⟩ (.slice none 0 0)) := ⟨_, rfl⟩
        have hres := err_storedR (w := w) (P := P) (R := A + 1) (k := 6) (by rw [← HA.out]; omega) HBW.out hbR hWF
        have HRES := Lib.hid hres; have HWF := Lib.hid hWF
        clear hres hWF hbR hbB
        go_wp2_with fail
        rw [← HWF.out]
        obtain ⟨hF, hJ⟩ := HRES.out
        have f0 := hF.cell 0; have f1 := hF.cell 1; have f2 := hF.cell 2
        simp at f0 f1 f2
        refine bodyPost_ret (v := .tuple #[.agg #[.int .i64 0, .slice none 0 0, .slice none 0 0], .int .i64 6]) (by simp [results, Tryz.results34, go_sem, f0, f1, f2]) rfl ?_
        rw [HRN.out]
        exact hJ
      · have HRN : Hid (R = .ok y.erase) := Lib.hid (by rw [hR2]; simp [h7])
        have j1 : (y.k != 7) = true := by simp [h7]
        have j2 : (y.k == 7) = false := by simp [h7]
        clear hR2 h7
        go_enter Tryz.func34, Tryz.ntmps34
        go_upto_region 2 with fail
        rw [← HW.out, ← HA.out]
        have hbR := BR.out
        have hbB := BB.out
        have r0 := hbR.cell 0; have r1 := hbR.cell 1; have r2 := hbR.cell 2
        have s0 := hbR.frozen 0; have s1 := hbR.frozen 1; have s2 := hbR.frozen 2
        have z0 := hbB.cell 0; have z1 := hbB.cell 1; have z2 := hbB.cell 2
        simp at r0 r1 r2 z0 z1 z2
        obtain ⟨WF, hWF⟩ : ∃ WF, WF = (((W.setCell ⟨A + 1, 0, none⟩ (.int .i64 y.k)).setCell ⟨A + 1, 1, none⟩ (.slice k4 y.ns.length l4)).setCell ⟨A + 1, 2, none⟩ (.slice k5 y.xs.length l5)) := ⟨_, rfl⟩
        have hres := res_storedR (u := y)  (w := w) (P := P) (R := A + 1) (by rw [← HA.out]; omega) HPP.out HBW.out hbR HIN.out (HSY.out.mono fun b hb => .inl hb) F4.out F5.out hWF
        have HRES := Lib.hid hres; have HWF := Lib.hid hWF
        clear hres hWF hbR hbB
        go_wp2_with fail
        rw [← HWF.out]
        obtain ⟨hF, hJ⟩ := HRES.out
        have f0 := hF.cell 0; have f1 := hF.cell 1; have f2 := hF.cell 2
        simp at f0 f1 f2
        refine bodyPost_ret (v := .tuple #[.agg #[.int .i64 y.k, .slice k4 y.ns.length l4, .slice k5 y.xs.length l5], .int .i64 0]) (by simp [results, Tryz.results34, go_sem, f0, f1, f2]) rfl ?_
        rw [HRN.out]
        exact hJ
    · have HRN : Hid (R = .error 6) := Lib.hid (by rw [hR2]; simp [h2])
      have j1 : (s == 2) = false := by simpa using h2
      clear hR2 h2
      go_enter Tryz.func34, Tryz.ntmps34
      go_upto_region 2 with fail
      rw [← HW.out, ← HA.out]
      have hbR := BR.out
      have hbB := BB.out
      have r0 := hbR.cell 0; have r1 := hbR.cell 1; have r2 := hbR.cell 2
      have s0 := hbR.frozen 0; have s1 := hbR.frozen 1; have s2 := hbR.frozen 2
      have z0 := hbB.cell 0; have z1 := hbB.cell 1; have z2 := hbB.cell 2
      simp at r0 r1 r2 z0 z1 z2
      obtain ⟨WF, hWF⟩ : ∃ WF, WF = (((W.setCell ⟨A + 1, 0, none⟩ (.int .i64 0)).setCell ⟨A + 1, 1, none⟩ (.slice none 0 0)).setCell ⟨A + 1, 2, none⟩ (.slice none 0 0)) := ⟨_, rfl⟩
      have hres := err_storedR (w := w) (P := P) (R := A + 1) (k := 6) (by rw [← HA.out]; omega) HBW.out hbR hWF
      have HRES := Lib.hid hres; have HWF := Lib.hid hWF
      clear hres hWF hbR hbB
      go_wp2_with fail
      rw [← HWF.out]
      obtain ⟨hF, hJ⟩ := HRES.out
      have f0 := hF.cell 0; have f1 := hF.cell 1; have f2 := hF.cell 2
      simp at f0 f1 f2
      refine bodyPost_ret (v := .tuple #[.agg #[.int .i64 0, .slice none 0 0, .slice none 0 0], .int .i64 6]) (by simp [results, Tryz.results34, go_sem, f0, f1, f2]) rfl ?_
      rw [HRN.out]
      exact hJ
  · have HRN : Hid (R = .error 6) := Lib.hid (by rw [hR2]; simp [h5])
    have j1 : (q == 5) = false := by simpa using h5
    clear hR2 h5 hlen1 hat ie af5
    go_enter Tryz.func34, Tryz.ntmps34
    go_upto_region 2 with fail
    rw [← HW.out, ← HA.out]
    have hbR := BR.out
    have hbB := BB.out
    have r0 := hbR.cell 0; have r1 := hbR.cell 1; have r2 := hbR.cell 2
    have s0 := hbR.frozen 0; have s1 := hbR.frozen 1; have s2 := hbR.frozen 2
    have z0 := hbB.cell 0; have z1 := hbB.cell 1; have z2 := hbB.cell 2
    simp at r0 r1 r2 z0 z1 z2
    obtain ⟨WF, hWF⟩ : ∃ WF, WF = (((W.setCell ⟨A + 1, 0, none⟩ (.int .i64 0)).setCell ⟨A + 1, 1, none⟩ (.slice none 0 0)).setCell ⟨A + 1, 2, none⟩ (.slice none 0 0)) := ⟨_, rfl⟩
    have hres := err_storedR (w := w) (P := P) (R := A + 1) (k := 6) (by rw [← HA.out]; omega) HBW.out hbR hWF
    have HRES := Lib.hid hres; have HWF := Lib.hid hWF
    clear hres hWF hbR hbB
    go_wp2_with fail
    rw [← HWF.out]
    obtain ⟨hF, hJ⟩ := HRES.out
    have f0 := hF.cell 0; have f1 := hF.cell 1; have f2 := hF.cell 2
    simp at f0 f1 f2
    refine bodyPost_ret (v := .tuple #[.agg #[.int .i64 0, .slice none 0 0, .slice none 0 0], .int .i64 6]) (by simp [results, Tryz.results34, go_sem, f0, f1, f2]) rfl ?_
    rw [HRN.out]
    exact hJ
end Go.Proofs.YtjpdbhhjlnmacaaGreat
