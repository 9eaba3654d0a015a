/- types.Check of any expression with any variables (printed by wip/gen_checkf.py). -/
import Derived.Test.YtjpdbhhjlnmacaaGreatTcM36
import Derived.Test.YtjpdbhhjlnmacaaGreatTcM37
import Derived.Test.YtjpdbhhjlnmacaaGreatTcM38
import Derived.Test.YtjpdbhhjlnmacaaGreatTcM39
namespace Go.Proofs.YtjpdbhhjlnmacaaGreat
set_option linter.unusedVariables false
open Go.RowKit

/-- What types.Check answers. -/
def checkF (x : Exp) (vs : List Var) : Except Int Ty := if (vs.all fun v => v.t.RightB) && x.RightB then checkP vs x else .error 2
def CheckRes (r : Except Int Ty) (w : World) (e : Ending) (w' : World) : Prop :=
  Below w.heap.size w w' ∧ match r with
  | .ok v => ∃ u : Ty, e = .returned (.tuple #[u.agg, .int .i64 0]) ∧ u.erase = v ∧ u.In w' ∧ u.Sep (fun b => w.heap.size ≤ b)
  | .error k => e = .returned (.tuple #[Ty.zero.agg, .int .i64 k])
theorem PTy.far {w : World} {b o : Nat} {v : Ty} (h : PTy w b o v) (n : Nat) : True := trivial
/-- Where it begins: the expression by value, room for the results. -/
structure K0 (w W : World) (x : Exp) : Prop where
  below : Below w.heap.size w W
  bx : PExp W w.heap.size 0 x
  br : Blk W (w.heap.size + 1) 36 #[.int .i64 0, .slice none 0 0, .slice none 0 0]
  be : Blk W (w.heap.size + 1 + 1) 37 #[.int .i64 0]
  size : W.heap.size = w.heap.size + 1 + 1 + 1
theorem k0_start (w : World) (x : Exp) (h : x.In w) : K0 w (((w.alloc (.cells x.cells.toArray 29)).alloc (.cells #[.int .i64 0, .slice none 0 0, .slice none 0 0] 36)).alloc (.cells #[.int .i64 0] 37)) x := by
  obtain ⟨W1, hW1⟩ : ∃ W1, W1 = w.alloc (.cells x.cells.toArray 29) := ⟨_, rfl⟩
  have hz1 : W1.heap.size = w.heap.size + 1 := by rw [hW1]; simp
  have hp : PExp W1 w.heap.size 0 x := by rw [hW1]; exact PExp.new w x 29 h
  have hb1 : Below w.heap.size w W1 := by rw [hW1]; exact (Below.refl _ w).alloc (Nat.le_refl _) _
  rw [← hW1]
  obtain ⟨W2, hW2⟩ : ∃ W2, W2 = W1.alloc (.cells #[.int .i64 0, .slice none 0 0, .slice none 0 0] 36) := ⟨_, rfl⟩
  have hz2 : W2.heap.size = w.heap.size + 1 + 1 := by rw [hW2]; simp [hz1]
  have hb2 : Below W1.heap.size W1 W2 := by rw [hW2]; exact (Below.refl _ _).alloc (Nat.le_refl _) _
  have hr2 : Blk W2 (w.heap.size + 1) 36 #[.int .i64 0, .slice none 0 0, .slice none 0 0] := by rw [hW2, ← hz1]; exact Blk.new W1 36 _
  rw [← hW2]
  obtain ⟨W3, hW3⟩ : ∃ W3, W3 = W2.alloc (.cells #[.int .i64 0] 37) := ⟨_, rfl⟩
  have hz3 : W3.heap.size = w.heap.size + 1 + 1 + 1 := by rw [hW3]; simp [hz2]
  have hb3 : Below W2.heap.size W2 W3 := by rw [hW3]; exact (Below.refl _ _).alloc (Nat.le_refl _) _
  have hr3 : Blk W3 (w.heap.size + 1 + 1) 37 #[.int .i64 0] := by rw [hW3, ← hz2]; exact Blk.new W2 37 _
  rw [← hW3]
  exact ⟨hb1.trans ((hb2.trans (hb3.mono hb2.size)).mono hb1.size), (hp.below hb2).below hb3, hr2.below hb3 hr2.lt, hr3, hz3⟩
theorem all_take {vs : List Var} {i : Nat} (hi : i < vs.length) (h : (vs.take i).all (fun v => v.t.RightB) = true) (h2 : (vs[i]'hi).t.RightB = true) : (vs.take (i + 1)).all (fun v => v.t.RightB) = true := by
  rw [List.take_succ_eq_append_getElem hi, List.all_append, h]
  simp [h2]

set_option maxHeartbeats 8000000 in
set_option maxRecDepth 100000 in
theorem checkf_any (x : Exp) (vs : List Var) (vp : Option Addr) (vc : Nat) (w : World) (hx : x.In w) (hv : VarsIn w vp vc vs) :
    Calls Tryz.prog 11 #[x.agg, .slice vp vs.length vc] w fun e w' => CheckRes (checkF x vs) w e w' := by
  obtain ⟨W, hW⟩ : ∃ W, W = ((w.alloc (.cells x.cells.toArray 29)).alloc (.cells #[.int .i64 0, .slice none 0 0, .slice none 0 0] 36)).alloc (.cells #[.int .i64 0] 37) := ⟨_, rfl⟩
  have hj : K0 w W x := by rw [hW]; exact k0_start w x hx
  have hvW := hv.below hj.below
  have hvs : ∀ v, v ∈ vs → v.t.Sep (fun b => b < w.heap.size) := fun v hm => (hv.each hm).2.2.1.sep
  obtain ⟨p8, q8, e8⟩ := hx.nslice
  obtain ⟨p9, q9, e9⟩ := hx.xslice
  obtain ⟨p6, q6, e6⟩ := hx.val.nslice
  obtain ⟨p7, q7, e7⟩ := hx.val.xslice
  have hxr := fun (W' : World) (hb : Below W.heap.size W W') => xrightf_any x W' ((hx.below hj.below).below hb)
  unfold Exp.cells at hW
  unfold Exp.agg at hxr ⊢
  rw [e6, e7, e8, e9] at hW hxr ⊢
  obtain ⟨A, hA⟩ : ∃ A, A = w.heap.size := ⟨_, rfl⟩
  have bx := hj.bx; have br := hj.br; have be := hj.be; have hWS := hj.size
  rw [← hA] at bx br be hWS
  obtain ⟨R, hR⟩ : ∃ R, R = checkF x vs := ⟨_, rfl⟩
  rw [← hR]
  have hR2 : R = if (vs.all fun v => v.t.RightB) && x.RightB then checkP vs x else .error 2 := hR
  obtain ⟨XR, hXR⟩ : ∃ XR, XR = x.RightB := ⟨_, rfl⟩
  rw [← hXR] at hxr hR2
  obtain ⟨N, hN⟩ : ∃ N, N = vs.length := ⟨_, rfl⟩
  rw [← hN]
  have hNb : N ≤ 879609302195 := by rw [hN]; exact hvW.len
  have hNc : N ≤ vc := by rw [hN]; exact hvW.cap
  have HW := Lib.hid hW; have HA := Lib.hid hA; have HBW := Lib.hid hj.below; have BX := Lib.hid bx; have BR := Lib.hid br; have BE := Lib.hid be; have HWS := Lib.hid hWS; have HR := Lib.hid hR2; have HXR := Lib.hid hXR; have HN := Lib.hid hN; have HVW := Lib.hid hvW; have HVS := Lib.hid hvs; have HXF := Lib.hid hxr
  have HA1 : Hid (w.heap.size ≤ A + 1) := Lib.hid (by omega)
  have EE6 := Lib.hid e6; have EE7 := Lib.hid e7; have EE8 := Lib.hid e8; have EE9 := Lib.hid e9
  clear hW hj hvW hvs e6 e7 e8 e9 hA bx br be hWS hR hR2 hXR hN hxr hx hv
  go_enter_defers Tryz.func11, Tryz.ntmps11
  go_upto_region 2 with fail
  rw [← HW.out, ← HA.out]
  go_wp2_with fail
  go_loopw [9] (fun iv wr => ∃ i : Nat, iv = .int .i64 (i : Int) ∧ i ≤ N ∧ Hid ((vs.take i).all (fun v => v.t.RightB) = true) ∧ Hid (Below W.heap.size W wr)) (fun iv _ => N - (intOf iv).toNat)
  case atStart => exact ⟨0, rfl, by omega, Lib.hid rfl, Lib.hid (Below.refl _ _)⟩
  case round =>
    obtain ⟨i, rfl, hi, HAL, HBL⟩ := hrel
    by_cases hlt : i < N
    · have hil : i < vs.length := by rw [← HN.out]; exact hlt
      obtain ⟨vb, vo, rfl, hpv0⟩ := HVW.out.at_ i hil
      obtain ⟨v, hvd⟩ : ∃ v, v = vs[i]'hil := ⟨_, rfl⟩
      rw [← hvd] at hpv0
      have hpv := hpv0.below HBL.out
      have htr := tright_any v.t wr hpv.ty.in
      have g0 := hpv.ty.c0; have g1 := hpv.ty.c1; have g2 := hpv.ty.c2
      obtain ⟨k4, l4, f4⟩ := hpv.ty.in.nslice
      obtain ⟨k5, l5, f5⟩ := hpv.ty.in.xslice
      rw [f4] at g1
      rw [f5] at g2
      unfold Ty.agg at htr
      rw [f4, f5] at htr
      have hk0 : (0 : Int) ≤ (i : Int) := by omega
      have hk1 : (i : Int) < (N : Int) := by omega
      have HC := Lib.hid htr
      have HVD := Lib.hid hvd
      clear htr hpv hpv0 f4 f5 hvd
      go_wp2_with fail
      refine HC.out.mono ?_
      rintro e w3 ⟨rfl, hb3⟩
      have B3 := Lib.hid (HBL.out.trans (hb3.mono HBL.out.size))
      clear hb3 g0 g1 g2
      by_cases hrb : v.t.RightB = true
      case neg =>
        have hrf : v.t.RightB = false := by simpa using hrb
        have HRN : Hid (R = .error 2) := Lib.hid (by
          rw [HR.out, if_neg]
          intro h
          rw [Bool.and_eq_true, List.all_eq_true] at h
          exact hrb (h.1 v (by rw [HVD.out]; simp)))
        rw [hrf]
        clear hrb
        go_wp2_with fail
        refine (tmust_false _ _ _ rfl).mono ?_
        rintro e w4 ⟨rfl, rfl⟩
        have hT := BR.out.below B3.out BR.out.lt
        have hE := BE.out.below B3.out BE.out.lt
        obtain ⟨kT, kE⟩ := caught_blk (k := 2) hT hE (by omega)
        have e0 := kT.cell 0; have e1 := kT.cell 1; have e2 := kT.cell 2; have e3 := kE.cell 0
        simp at e0 e1 e2 e3
        have E0 := Lib.hid e0; have E1 := Lib.hid e1; have E2 := Lib.hid e2; have E3 := Lib.hid e3; have HT := Lib.hid hT; have HEE := Lib.hid hE
        have HBF := Lib.hid (caught_below (k := 2) (HBW.out.trans (Below.mono B3.out HBW.out.size)) HA1.out (Nat.le_succ_of_le HA1.out))
        clear kT kE e0 e1 e2 e3 hT hE
        unfold gave
        go_wp2
        refine leaves_cons (f := 27) (args := #[.pointer (some ⟨A + 1, 0, none⟩), .pointer (some ⟨A + 1 + 1, 0, none⟩)]) (by simp) (by simp [go_sem]) ?_
        refine (caught_panicking _ _ 2 _ _ _ _ [] _ HT.out HEE.out (by omega)).mono ?_
        rintro e u' w'' ⟨rfl, rfl, rfl⟩
        have e0 := E0.out; have e1 := E1.out; have e2 := E2.out; have e3 := E3.out
        simp [Leaves, settle, results, Tryz.results11, go_sem, e0, e1, e2, e3]
        refine ⟨HBF.out, ?_⟩
        rw [HRN.out]
        rfl
      case pos =>
      have HAL2 : Hid ((vs.take (i + 1)).all (fun v => v.t.RightB) = true) := Lib.hid (all_take hil HAL.out (by rw [← HVD.out]; exact hrb))
      rw [hrb]
      clear hrb
      go_wp2_with fail
      refine (tmust_true _ _ _ rfl).mono ?_
      rintro e w4 ⟨rfl, rfl⟩
      go_wp2_with fail
      go_roundw
      case rel => exact ⟨i + 1, by go_num, by omega, HAL2, B3⟩
      case measure => simp [intOf]; omega
    · obtain rfl : i = N := by omega
      have t1 : decide ((i : Int) < (i : Int)) = false := by simp
      have HALL : Hid ((vs.all fun v => v.t.RightB) = true) := Lib.hid (by
        have := HAL.out
        rw [HN.out, List.take_length] at this
        exact this)
      have hx1 := BX.out.below HBL.out
      have c0 := hx1.c0; have c1 := hx1.c1; have c2 := hx1.c2; have c3 := hx1.c3; have c4 := hx1.c4; have c5 := hx1.c5; have c6 := hx1.c6; have c7 := hx1.c7; have c8 := hx1.c8; have c9 := hx1.c9
      rw [EE6.out] at c6
      rw [EE7.out] at c7
      rw [EE8.out] at c8
      rw [EE9.out] at c9
      simp only [Nat.zero_add] at c0 c1 c2 c3 c4 c5 c6 c7 c8 c9
      have HC := Lib.hid (HXF.out wr HBL.out)
      clear hx1 hlt
      go_wp2_with fail
      refine HC.out.mono ?_
      rintro e w3 ⟨rfl, hb3⟩
      have B3 := Lib.hid (HBL.out.trans (hb3.mono HBL.out.size))
      clear hb3 c0 c1 c2 c3 c4 c5 c6 c7 c8 c9
      cases XR with
      | false =>
        have HRN : Hid (R = .error 2) := Lib.hid (by rw [HR.out, HALL.out]; rfl)
        go_wp2_with fail
        refine (tmust_false _ _ _ rfl).mono ?_
        rintro e w4 ⟨rfl, rfl⟩
        have hT := BR.out.below B3.out BR.out.lt
        have hE := BE.out.below B3.out BE.out.lt
        obtain ⟨kT, kE⟩ := caught_blk (k := 2) hT hE (by omega)
        have e0 := kT.cell 0; have e1 := kT.cell 1; have e2 := kT.cell 2; have e3 := kE.cell 0
        simp at e0 e1 e2 e3
        have E0 := Lib.hid e0; have E1 := Lib.hid e1; have E2 := Lib.hid e2; have E3 := Lib.hid e3; have HT := Lib.hid hT; have HEE := Lib.hid hE
        have HBF := Lib.hid (caught_below (k := 2) (HBW.out.trans (Below.mono B3.out HBW.out.size)) HA1.out (Nat.le_succ_of_le HA1.out))
        clear kT kE e0 e1 e2 e3 hT hE
        unfold gave
        go_wp2
        refine leaves_cons (f := 27) (args := #[.pointer (some ⟨A + 1, 0, none⟩), .pointer (some ⟨A + 1 + 1, 0, none⟩)]) (by simp) (by simp [go_sem]) ?_
        refine (caught_panicking _ _ 2 _ _ _ _ [] _ HT.out HEE.out (by omega)).mono ?_
        rintro e u' w'' ⟨rfl, rfl, rfl⟩
        have e0 := E0.out; have e1 := E1.out; have e2 := E2.out; have e3 := E3.out
        simp [Leaves, settle, results, Tryz.results11, go_sem, e0, e1, e2, e3]
        refine ⟨HBF.out, ?_⟩
        rw [HRN.out]
        rfl
      | true =>
        have HR3 : Hid (R = checkP vs x) := Lib.hid (by rw [HR.out, HALL.out]; rfl)
        obtain ⟨W5, hW5⟩ : ∃ W5, W5 = w3.alloc (.cells #[.slice vp i vc] 64) := ⟨_, rfl⟩
        have hb5 : Below W.heap.size W W5 := by rw [hW5]; exact B3.out.alloc B3.out.size _
        have hbc : Blk W5 w3.heap.size 64 #[.slice vp i vc] := by rw [hW5]; exact Blk.new w3 64 _
        obtain ⟨C, hC⟩ : ∃ C, C = w3.heap.size := ⟨_, rfl⟩
        rw [← hC] at hbc
        have hww := HBW.out.size
        have hck := check_any x.sz C A 0 x vp vc vs (fun b => b < w.heap.size) W5 (Nat.le_refl _) ⟨fun b hb => Nat.lt_of_lt_of_le hb (Nat.le_trans hww hb5.size), BX.out.below hb5, by rw [← HN.out]; exact hbc, HVW.out.below hb5, HVS.out, by
          have := HXR.out
          unfold Exp.RightB at this
          exact ⟨1, ((Bool.and_eq_true _ _).mp this.symm).2⟩⟩
        obtain ⟨CR, hCR⟩ : ∃ CR, CR = checkP vs x := ⟨_, rfl⟩
        rw [← hCR] at hck HR3
        have HC5 := Lib.hid hck; have HW5 := Lib.hid hW5; have B5 := Lib.hid hb5; have HCC := Lib.hid hC
        clear hck hW5 hb5 hbc hC hCR hww
        go_wp2_with fail
        refine (tmust_true _ _ _ rfl).mono ?_
        rintro e w4 ⟨rfl, rfl⟩
        go_wp2_with fail
        rw [← HW5.out, ← HCC.out]
        refine HC5.out.mono ?_
        cases CR with
        | error k =>
          rintro e w6 ⟨hb6, rfl⟩
          have B6 := Lib.hid (B5.out.trans (hb6.mono B5.out.size))
          clear hb6
          have hT := BR.out.below B6.out BR.out.lt
          have hE := BE.out.below B6.out BE.out.lt
          obtain ⟨kT, kE⟩ := caught_blk (k := k) hT hE (by omega)
          have e0 := kT.cell 0; have e1 := kT.cell 1; have e2 := kT.cell 2; have e3 := kE.cell 0
          simp at e0 e1 e2 e3
          have E0 := Lib.hid e0; have E1 := Lib.hid e1; have E2 := Lib.hid e2; have E3 := Lib.hid e3; have HT := Lib.hid hT; have HEE := Lib.hid hE
          have HBF := Lib.hid (caught_below (k := k) (HBW.out.trans (Below.mono B6.out HBW.out.size)) HA1.out (Nat.le_succ_of_le HA1.out))
          clear kT kE e0 e1 e2 e3 hT hE
          unfold gave
          go_wp2
          refine leaves_cons (f := 27) (args := #[.pointer (some ⟨A + 1, 0, none⟩), .pointer (some ⟨A + 1 + 1, 0, none⟩)]) (by simp) (by simp [go_sem]) ?_
          refine (caught_panicking _ _ k _ _ _ _ [] _ HT.out HEE.out (by omega)).mono ?_
          rintro e u' w'' ⟨rfl, rfl, rfl⟩
          have e0 := E0.out; have e1 := E1.out; have e2 := E2.out; have e3 := E3.out
          simp [Leaves, settle, results, Tryz.results11, go_sem, e0, e1, e2, e3]
          refine ⟨HBF.out, ?_⟩
          rw [HR3.out]
          rfl
        | ok v =>
          rintro e w6 ⟨hb6, u, rfl, hue, hui, hus⟩
          have B6 := Lib.hid (B5.out.trans (hb6.mono B5.out.size))
          have HO := Lib.hid (own_any u.sz u w6 (Nat.le_refl _) hui)
          have HUE := Lib.hid hue
          clear hb6 hui hus hue
          go_wp2_with fail
          refine HO.out.mono ?_
          rintro e w7 ⟨t, rfl, hte, hti, hts, hb7⟩
          have B7 := Lib.hid (B6.out.trans (hb7.mono B6.out.size))
          obtain ⟨k4, l4, f4⟩ := hti.nslice
          obtain ⟨k5, l5, f5⟩ := hti.xslice
          have hag : t.agg = .agg #[.int .i64 t.k, .slice k4 t.ns.length l4, .slice k5 t.xs.length l5] := by unfold Ty.agg; rw [f4, f5]
          have hT := BR.out.below B7.out BR.out.lt
          have hE := BE.out.below B7.out BE.out.lt
          have r0 := hT.cell 0; have r1 := hT.cell 1; have r2 := hT.cell 2
          have s0 := hT.frozen 0; have s1 := hT.frozen 1; have s2 := hT.frozen 2
          simp at r0 r1 r2
          have hE3 := ((hE.far (p := ⟨A + 1, 0, none⟩) (by simp) (.int .i64 t.k)).far (p := ⟨A + 1, 1, none⟩) (by simp) (.slice k4 t.ns.length l4)).far (p := ⟨A + 1, 2, none⟩) (by simp) (.slice k5 t.xs.length l5)
          have q0 := hE.cell 0; have q1 := hE.frozen 0
          simp at q0
          obtain ⟨WF, hWF⟩ : ∃ WF, WF = (((w7.setCell ⟨A + 1, 0, none⟩ (.int .i64 t.k)).setCell ⟨A + 1, 1, none⟩ (.slice k4 t.ns.length l4)).setCell ⟨A + 1, 2, none⟩ (.slice k5 t.xs.length l5)).setCell ⟨A + 1 + 1, 0, none⟩ (.int .i64 0) := ⟨_, rfl⟩
          have hTF : Blk WF (A + 1) 36 #[.int .i64 t.k, .slice k4 t.ns.length l4, .slice k5 t.xs.length l5] := by rw [hWF]; exact (blk3_set hT _ _ _).far (p := ⟨A + 1 + 1, 0, none⟩) (by simp) _
          have hEF : Blk WF (A + 1 + 1) 37 #[.int .i64 0] := by rw [hWF]; exact hE3.set_ 0 _
          have hBF : Below w.heap.size w WF := by
            rw [hWF]
            exact (below3_set (HBW.out.trans (B7.out.mono HBW.out.size)) HA1.out _ _ _).setCell (p := ⟨A + 1 + 1, 0, none⟩) (Nat.le_succ_of_le HA1.out) _
          have hIF : t.In WF := hti.carryS hts (fun b o hb hlt => by
            have hne : ∀ (c k : Nat), c = A + 1 ∨ c = A + 1 + 1 → (⟨c, k, none⟩ : Addr) ≠ ⟨b, o, none⟩ := fun c k hc e => by
              injection e with e _
              have h1 := B6.out.size; have h2 := HWS.out
              omega
            rw [hWF, World.cell?_setCell_other _ _ _ _ (hne _ 0 (.inr rfl)), World.cell?_setCell_other _ _ _ _ (hne _ 2 (.inl rfl)), World.cell?_setCell_other _ _ _ _ (hne _ 1 (.inl rfl)), World.cell?_setCell_other _ _ _ _ (hne _ 0 (.inl rfl))]) (by rw [hWF]; simp [World.setCell])
          have hter : t.erase = v := by rw [hte]; exact HUE.out
          rw [hag]
          have z0 := hTF.cell 0; have z1 := hTF.cell 1; have z2 := hTF.cell 2; have z3 := hEF.cell 0
          simp at z0 z1 z2 z3
          have Z0 := Lib.hid z0; have Z1 := Lib.hid z1; have Z2 := Lib.hid z2; have Z3 := Lib.hid z3
          have HWF := Lib.hid hWF; have HBF := Lib.hid hBF; have HIF := Lib.hid hIF; have HSF := Lib.hid (hts.mono (fun b hb => Nat.le_trans (Nat.le_trans HBW.out.size B6.out.size) hb)); have HTE := Lib.hid hter; have HAG := Lib.hid hag
          clear hWF hTF hEF hBF hIF hte hter hag hti hts hb7 f4 f5 hT hE hE3 z0 z1 z2 z3
          go_wp2
          rw [← HWF.out]
          refine leaves_cons (f := 27) (args := #[.pointer (some ⟨A + 1, 0, none⟩), .pointer (some ⟨A + 1 + 1, 0, none⟩)]) (by simp) (by simp [go_sem]) ?_
          refine (caught_idle _ _ _).mono ?_
          rintro e u' w'' ⟨rfl, rfl, rfl⟩
          have e0 := Z0.out; have e1 := Z1.out; have e2 := Z2.out; have e3 := Z3.out
          simp [Leaves, settle, results, Tryz.results11, go_sem, e0, e1, e2, e3]
          refine ⟨HBF.out, ?_⟩
          rw [HR3.out]
          exact ⟨t, by rw [HAG.out], HTE.out, HIF.out, HSF.out⟩
end Go.Proofs.YtjpdbhhjlnmacaaGreat

/- What a list of one expression, and a record's field, are checked to. Plain lemmas. -/
namespace Go.Proofs.YtjpdbhhjlnmacaaGreat
set_option linter.unusedVariables false
open Go.RowKit

theorem toE_err {o : Option Ty} {k : Int} (h : toE o = .error k) : k ≠ 0 := by
  cases o with
  | none => injection h with h; omega
  | some v => cases h
theorem ownP_err {x : Exp} {ks : List Ty} {vs : List Var} {k : Int} (h : ownP x ks vs = .error k) : k ≠ 0 := by
  unfold ownP at h
  repeat' split at h
  all_goals first | exact toE_err h | (injection h with h; omega) | cases h
theorem checkP_err (d : Nat) : ∀ (vs : List Var) (x : Exp) (k : Int), x.sz ≤ d → checkP vs x = .error k → k ≠ 0 := by
  induction d with
  | zero => intro vs v k hd; rw [Exp.sz_eq] at hd; omega
  | succ d ih =>
    intro vs x k hd h
    have key : ∀ (xs : List Exp), (∀ x, x ∈ xs → x.sz ≤ d) → ∀ k, checkAll vs xs = .error k → k ≠ 0 := fun xs => by
      induction xs with
      | nil => intro _ k h; simp [checkAll] at h
      | cons y xs ihx =>
        intro hx k h
        rw [checkAll] at h
        cases h1 : checkP vs y with
        | error e =>
          rw [h1] at h
          injection h with h
          exact h ▸ ih vs y e (hx y (by simp)) h1
        | ok t =>
          rw [h1] at h
          cases h2 : checkAll vs xs with
          | error e =>
            rw [h2] at h
            injection h with h
            exact h ▸ ihx (fun z hz => hx z (List.mem_cons_of_mem _ hz)) e h2
          | ok ts => rw [h2] at h; cases h
    rw [checkP_eq] at h
    unfold restP at h
    cases h1 : checkAll vs x.xs with
    | error e =>
      rw [h1] at h
      injection h with h
      exact h ▸ key x.xs (fun y hy => by have := Exp.size_mem hy; omega) e h1
    | ok ks =>
      rw [h1] at h
      simp only [] at h
      cases h2 : ownP x ks vs with
      | error e =>
        rw [h2] at h
        injection h with h
        exact h ▸ ownP_err h2
      | ok t =>
        rw [h2] at h
        simp only [] at h
        split at h
        · cases h
        · injection h with h; omega
theorem checkF_err {x : Exp} {vs : List Var} {k : Int} (h : checkF x vs = .error k) : k ≠ 0 := by
  unfold checkF at h
  split at h
  · exact checkP_err x.sz vs x k (Nat.le_refl _) h
  · injection h with h; omega
end Go.Proofs.YtjpdbhhjlnmacaaGreat

/- The document's parser: an expression of two kids (printed by wip/gen_par4.py). -/
namespace Go.Proofs.YtjpdbhhjlnmacaaGreat
set_option linter.unusedVariables false
open Go.RowKit

/-- An expression of two kids that lies in new memory. -/
abbrev Exp.two (k : Int) (xa : Sl) (a b : Exp) : Exp := .mk k ⟨#[]⟩ Val.zero .no [] xa [a, b]
/-- Where it begins. -/
structure T0 (w W : World) (a b : Exp) : Prop where
  below : Below w.heap.size w W
  ba : Blk W w.heap.size 29 a.cells.toArray
  bb : Blk W (w.heap.size + 1) 29 b.cells.toArray
  br : Blk W (w.heap.size + 1 + 1) 29 zero10
  size : W.heap.size = w.heap.size + 1 + 1 + 1
theorem t0_start (w : World) (a b : Exp) : T0 w (((w.alloc (.cells a.cells.toArray 29)).alloc (.cells b.cells.toArray 29)).alloc (.cells zero10 29)) a b := by
  have h1 := Blk.new w 29 a.cells.toArray
  have h2 := Blk.new (w.alloc (.cells a.cells.toArray 29)) 29 b.cells.toArray
  have h3 := Blk.new ((w.alloc (.cells a.cells.toArray 29)).alloc (.cells b.cells.toArray 29)) 29 zero10
  rw [show (w.alloc (.cells a.cells.toArray 29)).heap.size = w.heap.size + 1 from by simp] at h2
  rw [show ((w.alloc (.cells a.cells.toArray 29)).alloc (.cells b.cells.toArray 29)).heap.size = w.heap.size + 1 + 1 from by simp] at h3
  exact ⟨(((Below.refl _ w).alloc (Nat.le_refl _) _).alloc (by simp) _).alloc (by simp; omega) _, (h1.alloc _).alloc _, h2.alloc _, h3, by simp⟩
theorem two_in {w W : World} {k : Int} {a b : Exp} {g : Nat} (hk : i64r k) (ha : a.In W) (hb : b.In W) (hg : Blk W g 29 (a.cells ++ b.cells).toArray) : (Exp.two k (.at_ g 0 2) a b).In W := by
  rw [Exp.in_iff]
  refine ⟨⟨hk, by show (⟨#[]⟩ : ByteArray).size ≤ _; decide, by show 0 ≤ _; omega, by show 2 ≤ _; omega, fun s hs => by simp [Exp.ns] at hs⟩, ?_, rfl, ⟨Nat.le_refl _, by omega, fun i hi j hj => ⟨?_, hg.lt⟩⟩, fun x hx => ?_⟩
  · rw [show (Exp.two k (.at_ g 0 2) a b).v = Val.zero from rfl, Val.in_iff]
    exact ⟨⟨by unfold i64r; decide, by unfold i64r; decide, by decide, by unfold strok; decide, by decide, by decide, fun s h => by simp [Val.ns] at h⟩, rfl, rfl, fun x hx => by simp [Val.xs] at hx⟩
  · rw [hg.cell]
    have hi2 : i = 0 ∨ i = 1 := by have : i < 2 := hi; omega
    rcases hi2 with rfl | rfl
    · show (a.cells ++ b.cells).toArray[0 + (0 * 10 + j)]? = a.cells[j]?
      rw [List.getElem?_toArray, List.getElem?_append_left (by rw [xcells_len]; omega)]
      congr 1
      omega
    · show (a.cells ++ b.cells).toArray[0 + (1 * 10 + j)]? = b.cells[j]?
      rw [List.getElem?_toArray, List.getElem?_append_right (by rw [xcells_len]; omega), xcells_len]
      congr 1
      omega
  · have : x = a ∨ x = b := by simpa [Exp.xs] using hx
    rcases this with rfl | rfl
    · exact ha
    · exact hb

set_option maxHeartbeats 16000000 in
set_option maxRecDepth 100000 in
theorem two_any (k : Int) (a b : Exp) (w : World) (hk : i64r k) (ha : a.In w) (hb : b.In w) :
    Calls Tryz.prog 112 #[.int .i64 k, a.agg, b.agg] w fun e w' => ∃ g, w.heap.size ≤ g ∧ e = .returned (Exp.two k (.at_ g 0 2) a b).agg ∧ (Exp.two k (.at_ g 0 2) a b).In w' ∧ Below w.heap.size w w' := by
  obtain ⟨W, hW⟩ : ∃ W, W = ((w.alloc (.cells a.cells.toArray 29)).alloc (.cells b.cells.toArray 29)).alloc (.cells zero10 29) := ⟨_, rfl⟩
  have h0 : T0 w W a b := by rw [hW]; exact t0_start w a b
  obtain ⟨a8, am8, ea8⟩ := ha.nslice; obtain ⟨a9, am9, ea9⟩ := ha.xslice; obtain ⟨a6, am6, ea6⟩ := ha.val.nslice; obtain ⟨a7, am7, ea7⟩ := ha.val.xslice
  obtain ⟨b8, bm8, eb8⟩ := hb.nslice; obtain ⟨b9, bm9, eb9⟩ := hb.xslice; obtain ⟨b6, bm6, eb6⟩ := hb.val.nslice; obtain ⟨b7, bm7, eb7⟩ := hb.val.xslice
  have hca : a.cells.toArray = #[.int .i64 a.k, .string a.s, .int .i64 a.v.k, .int .i64 a.v.n, .float .f64 a.v.f, .string a.v.s, .slice a6 a.v.ns.length am6, .slice a7 a.v.xs.length am7, .slice a8 a.ns.length am8, .slice a9 a.xs.length am9] := by unfold Exp.cells; rw [ea6, ea7, ea8, ea9]
  have hcb : b.cells.toArray = #[.int .i64 b.k, .string b.s, .int .i64 b.v.k, .int .i64 b.v.n, .float .f64 b.v.f, .string b.v.s, .slice b6 b.v.ns.length bm6, .slice b7 b.v.xs.length bm7, .slice b8 b.ns.length bm8, .slice b9 b.xs.length bm9] := by unfold Exp.cells; rw [eb6, eb7, eb8, eb9]
  have haW := ha.below h0.below; have hbW := hb.below h0.below
  obtain ⟨A, hA⟩ : ∃ A, A = w.heap.size := ⟨_, rfl⟩
  have ba := h0.ba; have bb := h0.bb; have br := h0.br; have hz := h0.size
  rw [← hA] at ba bb br hz
  rw [hca] at ba
  rw [hcb] at bb
  have hab : (a.cells ++ b.cells).toArray = #[.int .i64 a.k, .string a.s, .int .i64 a.v.k, .int .i64 a.v.n, .float .f64 a.v.f, .string a.v.s, .slice a6 a.v.ns.length am6, .slice a7 a.v.xs.length am7, .slice a8 a.ns.length am8, .slice a9 a.xs.length am9, .int .i64 b.k, .string b.s, .int .i64 b.v.k, .int .i64 b.v.n, .float .f64 b.v.f, .string b.v.s, .slice b6 b.v.ns.length bm6, .slice b7 b.v.xs.length bm7, .slice b8 b.ns.length bm8, .slice b9 b.xs.length bm9] := by
    have : (a.cells ++ b.cells).toArray = a.cells.toArray ++ b.cells.toArray := by simp
    rw [this, hca, hcb]
    rfl
  obtain ⟨W2, hW2⟩ : ∃ W2, W2 = ((((((((((W.setCell ⟨A + 1 + 1, 0, none⟩ (.int .i64 k)).setCell ⟨A + 1 + 1, 1, none⟩ (.string ⟨#[]⟩)).setCell ⟨A + 1 + 1, 2, none⟩ (.int .i64 0)).setCell ⟨A + 1 + 1, 3, none⟩ (.int .i64 0)).setCell ⟨A + 1 + 1, 4, none⟩ (.float .f64 0)).setCell ⟨A + 1 + 1, 5, none⟩ (.string ⟨#[]⟩)).setCell ⟨A + 1 + 1, 6, none⟩ (.slice none 0 0)).setCell ⟨A + 1 + 1, 7, none⟩ (.slice none 0 0)).setCell ⟨A + 1 + 1, 8, none⟩ (.slice none 0 0)).setCell ⟨A + 1 + 1, 9, none⟩ (.slice (some ⟨W.heap.size, 0, none⟩) 2 2)) := ⟨_, rfl⟩
  have hb2 : Below w.heap.size w W2 := by rw [hW2]; exact below10_set h0.below (by omega) (.int .i64 k) (.string ⟨#[]⟩) (.int .i64 0) (.int .i64 0) (.float .f64 0) (.string ⟨#[]⟩) (.slice none 0 0) (.slice none 0 0) (.slice none 0 0) (.slice (some ⟨W.heap.size, 0, none⟩) 2 2)
  have br2 : Blk W2 (A + 1 + 1) 29 #[.int .i64 k, .string ⟨#[]⟩, .int .i64 0, .int .i64 0, .float .f64 0, .string ⟨#[]⟩, .slice none 0 0, .slice none 0 0, .slice none 0 0, .slice (some ⟨W.heap.size, 0, none⟩) 2 2] := by rw [hW2]; exact blk10_set br (.int .i64 k) (.string ⟨#[]⟩) (.int .i64 0) (.int .i64 0) (.float .f64 0) (.string ⟨#[]⟩) (.slice none 0 0) (.slice none 0 0) (.slice none 0 0) (.slice (some ⟨W.heap.size, 0, none⟩) 2 2)
  have hz2 : W2.heap.size = W.heap.size := by rw [hW2]; simp [World.setCell]
  obtain ⟨WF, hWF⟩ : ∃ WF, WF = W2.alloc (.cells #[.int .i64 a.k, .string a.s, .int .i64 a.v.k, .int .i64 a.v.n, .float .f64 a.v.f, .string a.v.s, .slice a6 a.v.ns.length am6, .slice a7 a.v.xs.length am7, .slice a8 a.ns.length am8, .slice a9 a.xs.length am9, .int .i64 b.k, .string b.s, .int .i64 b.v.k, .int .i64 b.v.n, .float .f64 b.v.f, .string b.v.s, .slice b6 b.v.ns.length bm6, .slice b7 b.v.xs.length bm7, .slice b8 b.ns.length bm8, .slice b9 b.xs.length bm9] 29) := ⟨_, rfl⟩
  have hbF : Below w.heap.size w WF := by rw [hWF]; exact hb2.alloc (by rw [hz2, hz, hA]; omega) _
  have hF : Blk WF (A + 1 + 1) 29 #[.int .i64 k, .string ⟨#[]⟩, .int .i64 0, .int .i64 0, .float .f64 0, .string ⟨#[]⟩, .slice none 0 0, .slice none 0 0, .slice none 0 0, .slice (some ⟨W.heap.size, 0, none⟩) 2 2] := by rw [hWF]; exact br2.alloc _
  have blF : Blk WF W.heap.size 29 (a.cells ++ b.cells).toArray := by rw [hab, hWF, ← hz2]; exact Blk.new W2 29 _
  have hin : (Exp.two k (.at_ W.heap.size 0 2) a b).In WF := two_in (w := w) hk (ha.below hbF) (hb.below hbF) blF
  have c0 := ba.cell 0; have c1 := ba.cell 1; have c2 := ba.cell 2; have c3 := ba.cell 3; have c4 := ba.cell 4; have c5 := ba.cell 5; have c6 := ba.cell 6; have c7 := ba.cell 7; have c8 := ba.cell 8; have c9 := ba.cell 9
  have d0 := bb.cell 0; have d1 := bb.cell 1; have d2 := bb.cell 2; have d3 := bb.cell 3; have d4 := bb.cell 4; have d5 := bb.cell 5; have d6 := bb.cell 6; have d7 := bb.cell 7; have d8 := bb.cell 8; have d9 := bb.cell 9
  have r0 := br.cell 0; have r1 := br.cell 1; have r2 := br.cell 2; have r3 := br.cell 3; have r4 := br.cell 4; have r5 := br.cell 5; have r6 := br.cell 6; have r7 := br.cell 7; have r8 := br.cell 8; have r9 := br.cell 9
  have s0 := br.frozen 0; have s1 := br.frozen 1; have s2 := br.frozen 2; have s3 := br.frozen 3; have s4 := br.frozen 4; have s5 := br.frozen 5; have s6 := br.frozen 6; have s7 := br.frozen 7; have s8 := br.frozen 8; have s9 := br.frozen 9
  have hlt2 : A + 1 + 1 < W.heap.size := by omega
  simp at c0 c1 c2 c3 c4 c5 c6 c7 c8 c9 d0 d1 d2 d3 d4 d5 d6 d7 d8 d9 r0 r1 r2 r3 r4 r5 r6 r7 r8 r9
  rw [hca, hcb] at hW
  unfold Exp.agg
  rw [ea6, ea7, ea8, ea9, eb6, eb7, eb8, eb9]
  have hsf := run_store_flt
  have HW := Lib.hid hW; have HA := Lib.hid hA; have HZ := Lib.hid hz; have HW2 := Lib.hid hW2; have HBF := Lib.hid hbF; have HF := Lib.hid hF; have HIN := Lib.hid hin; have HWF := Lib.hid hWF
  clear hW h0 ba bb br hz hW2 hab hb2 br2 hz2 hWF hbF hF blF hin ha hb haW hbW hca hcb ea6 ea7 ea8 ea9 eb6 eb7 eb8 eb9 hA
  go_enter Tryz.func112, Tryz.ntmps112
  go_upto_region 1 with fail
  unfold zero10 at HW
  rw [← HW.out, ← HA.out]
  go_wp2_with fail
  rw [← HW2.out, ← HWF.out]
  have f0 := HF.out.cell 0; have f1 := HF.out.cell 1; have f2 := HF.out.cell 2; have f3 := HF.out.cell 3; have f4 := HF.out.cell 4; have f5 := HF.out.cell 5; have f6 := HF.out.cell 6; have f7 := HF.out.cell 7; have f8 := HF.out.cell 8; have f9 := HF.out.cell 9
  simp at f0 f1 f2 f3 f4 f5 f6 f7 f8 f9
  refine bodyPost_ret (v := .agg #[.int .i64 k, .string ⟨#[]⟩, .int .i64 0, .int .i64 0, .float .f64 0, .string ⟨#[]⟩, .slice none 0 0, .slice none 0 0, .slice none 0 0, .slice (some ⟨W.heap.size, 0, none⟩) 2 2]) (by simp [results, Tryz.results112, go_sem, f0, f1, f2, f3, f4, f5, f6, f7, f8, f9]) rfl ?_
  exact ⟨W.heap.size, by rw [HZ.out, HA.out]; omega, rfl, HIN.out, HBF.out⟩
end Go.Proofs.YtjpdbhhjlnmacaaGreat
