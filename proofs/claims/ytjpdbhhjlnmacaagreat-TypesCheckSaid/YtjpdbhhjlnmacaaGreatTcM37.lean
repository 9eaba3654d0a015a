/- (*checker).own of a list, and of any expression (printed by wip/gen_cown3.py). -/
import Derived.Test.YtjpdbhhjlnmacaaGreatTcM26
import Derived.Test.YtjpdbhhjlnmacaaGreatTcM27
import Derived.Test.YtjpdbhhjlnmacaaGreatTcM29
import Derived.Test.YtjpdbhhjlnmacaaGreatTcM36
namespace Go.Proofs.YtjpdbhhjlnmacaaGreat
set_option linter.unusedVariables false
open Go.RowKit

def listR (F : Option Ty) : Except Int Ty := match F with | some t => .ok (.mk 5 .no [] .no [t]) | none => .error 6
theorem foldJ_erase (a : Ty) (l : List Ty) : (foldJ a.erase l).map Ty.erase = (foldJ a l).map Ty.erase := by
  cases l with
  | nil => simp [foldJ, Ty.ee]
  | cons x l => simp only [foldJ, Ty.joinT_eraseL]
theorem foldJ_drop {u v u' : Ty} {ks : List Ty} {i : Nat} (hi : i < ks.length) (h : u.joinT (ks[i]'hi) = some v) (hv : u'.erase = v) : (foldJ u (ks.drop i)).map Ty.erase = (foldJ u' (ks.drop (i + 1))).map Ty.erase := by
  rw [List.drop_eq_getElem_cons hi, foldJ, h, Option.bind_some, ← hv, foldJ_erase]
theorem foldJ_stop {u : Ty} {ks : List Ty} {i : Nat} (hi : i < ks.length) (h : u.joinT (ks[i]'hi) = none) : (foldJ u (ks.drop i)).map Ty.erase = none := by
  rw [List.drop_eq_getElem_cons hi, foldJ, h]
  rfl
/-- A type's cells written over a block. -/
theorem ty_over {W WF : World} {u : Ty} {P : Nat → Prop} {R : Nat} {k4 k5 : Option Addr} {l4 l5 : Nat} {x0 x1 x2 : Value} (hP : ∀ b, P b → b < R) (hr : Blk W R 36 #[x0, x1, x2]) (hi : u.In W) (hs : u.Sep (fun b => P b ∨ R + 1 ≤ b))
    (hWF : WF = ((W.setCell ⟨R, 0, none⟩ (.int .i64 u.k)).setCell ⟨R, 1, none⟩ (.slice k4 u.ns.length l4)).setCell ⟨R, 2, none⟩ (.slice k5 u.xs.length l5)) :
    Blk WF R 36 #[.int .i64 u.k, .slice k4 u.ns.length l4, .slice k5 u.xs.length l5] ∧ u.In WF := by
  refine ⟨by rw [hWF]; exact blk3_set hr _ _ _, ?_⟩
  refine hi.carryS hs (fun b o hb hlt => ?_) (by rw [hWF]; simp [World.setCell])
  have hne : ∀ k, (⟨R, k, none⟩ : Addr) ≠ ⟨b, o, none⟩ := fun k e => by
    injection e with e _
    rcases hb with hb | hb
    · have := hP b hb; omega
    · omega
  rw [hWF, World.cell?_setCell_other _ _ _ _ (hne 2), World.cell?_setCell_other _ _ _ _ (hne 1), World.cell?_setCell_other _ _ _ _ (hne 0)]
/-- A list of one type, in a row of its own. -/
theorem one_row {w : World} {u : Ty} (h : u.In w) : (Ty.mk 5 .no [] (.at_ w.heap.size 0 1) [u]).In (w.alloc (.cells u.cells.toArray 36)) := by
  have hp := PTy.new w u 36 h
  rw [Ty.in_iff]
  refine ⟨⟨by show i64r 5; unfold i64r; decide, by simp [Ty.ns], by simp [Ty.xs], fun s hs => by simp [Ty.ns] at hs⟩, rfl, ?_, fun x hx => ?_⟩
  · refine ⟨Nat.le_refl _, by decide, fun i hi j hj => ?_⟩
    obtain rfl : i = 0 := by simp [Ty.xs] at hi; omega
    refine ⟨?_, by simp⟩
    have := hp.1 j hj
    simp only [Nat.zero_mul, Nat.zero_add] at this ⊢
    rw [this]
    rfl
  · obtain rfl : x = u := by simpa [Ty.xs] using hx
    exact hp.in

set_option maxHeartbeats 8000000 in
set_option maxRecDepth 100000 in
theorem cown_list (C b o : Nat) (x : Exp) (K : Ty) (vp : Option Addr) (vc : Nat) (vs : List Var) (P : Nat → Prop) (w : World) (h : OwnIn C b o x K vp vc vs P w) (hk : x.k = 16) :
    Calls Tryz.prog 52 #[.pointer (some ⟨C, 0, none⟩), .pointer (some ⟨b, o, none⟩), K.xa.val K.xs.length] w fun e w' => GaveE (ownP x K.xs vs) P w e w' := by
  obtain ⟨W, hW⟩ : ∃ W, W = (w.alloc (.cells #[.pointer (some ⟨b, o, none⟩)] 66)).alloc (.cells #[.int .i64 0, .slice none 0 0, .slice none 0 0] 36) := ⟨_, rfl⟩
  have hj : C0 w W b o := by rw [hW]; exact c0_start w b o
  have hIW := h.below hj.below
  obtain ⟨kp, kc, ek, hkat⟩ := titems_at hIW.hK
  rw [ek]
  obtain ⟨A, hA⟩ : ∃ A, A = w.heap.size := ⟨_, rfl⟩
  have bp := hj.bp; have br := hj.br; have hWS := hj.size
  rw [← hA] at bp br hWS
  have p0 := bp.cell 0
  simp at p0
  have HW := Lib.hid hW; have HA := Lib.hid hA; have HBW := Lib.hid hj.below; have BP := Lib.hid bp; have BR := Lib.hid br; have HI := Lib.hid hIW; have HP := Lib.hid h.hP; have HWS := Lib.hid hWS; have HKAT := Lib.hid hkat
  have x0 := hIW.hx.c0
  rw [hk] at x0
  obtain ⟨R, hR⟩ : ∃ R, R = ownP x K.xs vs := ⟨_, rfl⟩
  rw [← hR]
  obtain ⟨F, hF⟩ : ∃ F, F = (foldJ (Ty.of 7) K.xs).map Ty.erase := ⟨_, rfl⟩
  have hR2 : R = listR F := by
    rw [hR, hF]; unfold ownP; rw [if_neg (by omega), if_neg (by omega), if_neg (by omega), if_pos hk]
    cases foldJ (Ty.of 7) K.xs <;> rfl
  have hMb : K.xs.length ≤ 2513169434843 := hIW.hK.ok.2.2.1
  obtain ⟨M, hM⟩ : ∃ M, M = K.xs.length := ⟨_, rfl⟩
  rw [← hM] at hMb ⊢
  have HR2 := Lib.hid hR2; have HF := Lib.hid hF; have HM := Lib.hid hM; have HOF := Lib.hid (fun W => of_any 7 W); have HKS := Lib.hid h.hKS; have HKR := Lib.hid h.hKR
  clear hW hA hj hIW hkat hR hR2 hk ek bp br hWS h hF hM
  go_enter Tryz.func52, Tryz.ntmps52
  go_upto_region 1 with fail
  rw [← HW.out, ← HA.out]
  go_wp2_with fail
  refine (HOF.out _).mono ?_
  rintro e w5 ⟨rfl, hb5⟩
  obtain ⟨T, hT⟩ : ∃ T, T = w5.heap.size := ⟨_, rfl⟩
  obtain ⟨W6, hW6⟩ : ∃ W6, W6 = w5.alloc (.cells #[.int .i64 7, .slice none 0 0, .slice none 0 0] 36) := ⟨_, rfl⟩
  have hb6 : Below W.heap.size W W6 := by rw [hW6]; exact hb5.alloc hb5.size _
  have hbt : Blk W6 T 36 #[.int .i64 7, .slice none 0 0, .slice none 0 0] := by rw [hW6, hT]; exact Blk.new w5 36 _
  have hWT : W.heap.size ≤ T := by rw [hT]; exact hb5.size
  have HW6 := Lib.hid hW6; have B6 := Lib.hid hb6; have HBT := Lib.hid hbt; have HT := Lib.hid hT; have HWT := Lib.hid hWT
  clear hW6 hb6 hbt hb5 hT hWT
  go_upto_region 13 with fail
  rw [← HW6.out, ← HT.out]
  go_wp2_with fail
  go_loopw [63] (fun iv wr => ∃ (i : Nat) (u : Ty) (k4 k5 : Option Addr) (l4 l5 : Nat), iv = .int .i64 (i : Int) ∧ i ≤ M ∧ Hid (Blk wr T 36 #[.int .i64 u.k, .slice k4 u.ns.length l4, .slice k5 u.xs.length l5]) ∧
    Hid (u.na.val u.ns.length = .slice k4 u.ns.length l4) ∧ Hid (u.xa.val u.xs.length = .slice k5 u.xs.length l5) ∧ Hid (u.In wr) ∧ Hid (u.Sep (fun b => P b ∨ T + 1 ≤ b)) ∧ Hid (u.rightB 1 = true) ∧ Hid (F = (foldJ u (K.xs.drop i)).map Ty.erase) ∧ Hid (Below W.heap.size W wr)) (fun iv _ => M - (intOf iv).toNat)
  case atStart => exact ⟨0, Ty.of 7, none, none, 0, 0, rfl, by omega, HBT, Lib.hid rfl, Lib.hid rfl, Lib.hid (of_in 7 (by unfold i64r; decide) _), Lib.hid (of_sep _ _), Lib.hid (by rw [Ty.rightB_mk]; decide), Lib.hid (by rw [HF.out]; rfl), B6⟩
  case round =>
    obtain ⟨i, u, k4, k5, l4, l5, rfl, hi, HB, E4, E5, HIN, HSEP, HRI, HFO, HBL⟩ := hrel
    by_cases hlt : i < M
    · have hil : i < K.xs.length := by rw [← HM.out]; exact hlt
      obtain ⟨xb, xo, rfl, hpx0, hlc⟩ := HKAT.out i hil
      rw [← HM.out] at hlc
      obtain ⟨y, hy⟩ : ∃ y, y = K.xs[i]'hil := ⟨_, rfl⟩
      have hym : y ∈ K.xs := by rw [hy]; simp
      rw [← hy] at hpx0
      have hpx := hpx0.below HBL.out
      have u0 := hpx.c0; have u1 := hpx.c1; have u2 := hpx.c2
      obtain ⟨m4, n4, g4⟩ := hpx.in.nslice
      obtain ⟨m5, n5, g5⟩ := hpx.in.xslice
      rw [g4] at u1; rw [g5] at u2
      obtain ⟨W5, hW5⟩ : ∃ W5, W5 = wr.alloc (.cells #[.int .i64 y.k, .slice m4 y.ns.length n4, .slice m5 y.xs.length n5] 36) := ⟨_, rfl⟩
      have hb5 : Below wr.heap.size wr W5 := by rw [hW5]; exact (Below.refl _ _).alloc (Nat.le_refl _) _
      have hbx5 : Blk W5 wr.heap.size 36 #[.int .i64 y.k, .slice m4 y.ns.length n4, .slice m5 y.xs.length n5] := by rw [hW5]; exact Blk.new wr 36 _
      have hTw : T < wr.heap.size := HB.out.lt
      have hwW : W.heap.size ≤ wr.heap.size := HBL.out.size
      have hww : w.heap.size ≤ W.heap.size := HBW.out.size
      have hsu : u.Sep (fun b => P b ∨ (T + 1 ≤ b ∧ b < W5.heap.size)) := (HSEP.out.and HIN.out.sep).mono (fun b hb => by
        rcases hb.1 with h | h
        · exact .inl h
        · exact .inr ⟨h, Nat.lt_of_lt_of_le hb.2 hb5.size⟩)
      have hc := join_any u.sz u y (fun b => P b ∨ (T + 1 ≤ b ∧ b < W5.heap.size)) W5 (Nat.le_refl _) (fun b hb => by
        have h5 := hb5.size
        rcases hb with h | h
        · have := HP.out b h; omega
        · exact h.2) (HIN.out.below hb5) (hpx.in.below hb5) ⟨1, HRI.out⟩ ⟨1, HKR.out y hym⟩ hsu ((HKS.out.kid hym).mono (fun b hb => .inl hb))
      obtain ⟨JT, hJT⟩ : ∃ JT, JT = u.joinT y := ⟨_, rfl⟩
      rw [← hJT] at hc
      unfold Ty.agg at hc
      rw [g4, g5, E4.out, E5.out] at hc
      have hk0 : (0 : Int) ≤ (i : Int) := by omega
      have hk1 : (i : Int) < (M : Int) := by omega
      have HC := Lib.hid hc; have HW5 := Lib.hid hW5; have HB5 := Lib.hid hb5; have HBX := Lib.hid hbx5; have HJT := Lib.hid hJT; have HY := Lib.hid hy
      have HYM := Lib.hid hym
      have HSZ := Lib.hid hTw
      clear hc hW5 hb5 hbx5 hpx hpx0 hJT hsu hym g4 g5 hTw hwW hww hy
      go_upto_region 16 with fail
      rw [← HW5.out]
      clear u0 u1 u2
      have u0 := HBX.out.cell 0; have u1 := HBX.out.cell 1; have u2 := HBX.out.cell 2
      have hbT5 := HB.out.below HB5.out HB.out.lt
      have t0 := hbT5.cell 0; have t1 := hbT5.cell 1; have t2 := hbT5.cell 2
      simp at u0 u1 u2 t0 t1 t2
      clear hbT5
      go_wp2_with fail
      refine HC.out.mono ?_
      cases JT with
      | none =>
        rintro e w6 ⟨hb6, rfl⟩
        have B7 := Lib.hid (HBL.out.trans ((HB5.out.trans (hb6.mono HB5.out.size)).mono HBL.out.size))
        have HRN : Hid (R = .error 6) := Lib.hid (by
          rw [HR2.out, HFO.out, foldJ_stop hil (by rw [← HY.out, ← HJT.out])]; rfl)
        clear hb6
        unfold gave
        go_wp2
        refine ⟨rfl, HBW.out.trans ((B7.out).mono HBW.out.size), ?_⟩
        rw [HRN.out]
        rfl
      | some v =>
        rintro e w6 ⟨hb6, u', rfl, hue, hui, hus⟩
        obtain ⟨a4, b4, f4⟩ := hui.nslice
        obtain ⟨a5, b5, f5⟩ := hui.xslice
        have hag : u'.agg = .agg #[.int .i64 u'.k, .slice a4 u'.ns.length b4, .slice a5 u'.xs.length b5] := by unfold Ty.agg; rw [f4, f5]
        rw [hag]
        have hr06 := HB5.out.trans (hb6.mono HB5.out.size)
        have hbT := HB.out.below hr06 HB.out.lt
        have r0 := hbT.cell 0; have r1 := hbT.cell 1; have r2 := hbT.cell 2
        have s0 := hbT.frozen 0; have s1 := hbT.frozen 1; have s2 := hbT.frozen 2
        simp at r0 r1 r2
        obtain ⟨WF, hWF⟩ : ∃ WF, WF = ((w6.setCell ⟨T, 0, none⟩ (.int .i64 u'.k)).setCell ⟨T, 1, none⟩ (.slice a4 u'.ns.length b4)).setCell ⟨T, 2, none⟩ (.slice a5 u'.xs.length b5) := ⟨_, rfl⟩
        have hsu : u'.Sep (fun b => P b ∨ T + 1 ≤ b) := hus.mono (fun b hb => by
          have h5 := HB5.out.size; have h6 := HSZ.out
          rcases hb with h | h
          · rcases h with h | h
            · exact .inl h
            · exact .inr h.1
          · exact .inr (by omega))
        obtain ⟨hTF, hIF⟩ := ty_over (fun b hb => by have := HP.out b hb; have h2 := HBW.out.size; have h3 := HWT.out; omega) hbT hui hsu hWF
        have hBF : Below W.heap.size W WF := by rw [hWF]; exact below3_set (HBL.out.trans (hr06.mono HBL.out.size)) HWT.out _ _ _
        have HWF := Lib.hid hWF; have HTF := Lib.hid hTF; have HIF := Lib.hid hIF; have HBF := Lib.hid hBF; have HSU := Lib.hid hsu; have F4 := Lib.hid f4; have F5 := Lib.hid f5
        have HRT : Hid (u'.rightB 1 = true) := Lib.hid (by
          rw [← Ty.rightB_erase u'.sz u' 1 (Nat.le_refl _), hue]
          exact joinT_right HRI.out (HKR.out y HYM.out) HJT.out.symm)
        have HF2 : Hid (F = (foldJ u' (K.xs.drop (i + 1))).map Ty.erase) := Lib.hid (by
          rw [HFO.out]
          exact foldJ_drop hil (by rw [← HY.out, ← HJT.out]) hue)
        clear hWF hTF hIF hBF hsu f4 f5 hag hr06 hbT hb6 hui hus hue u0 u1 u2 t0 t1 t2
        go_wp2_with fail
        rw [← HWF.out]
        go_roundw
        case rel => exact ⟨i + 1, u', a4, a5, b4, b5, by go_num, by omega, HTF, F4, F5, HIF, HSU, HRT, HF2, HBF⟩
        case measure => simp [intOf]; omega
    · obtain rfl : i = M := by omega
      have t0 := HB.out.cell 0; have t1 := HB.out.cell 1; have t2 := HB.out.cell 2
      simp at t0 t1 t2
      have hlt2 : decide ((i : Int) < (i : Int)) = false := by simp
      have HRS : Hid (R = .ok (Ty.mk 5 .no [] (.at_ wr.heap.size 0 1) [u]).erase) := Lib.hid (by
        rw [HR2.out, HFO.out, HM.out, List.drop_length, Ty.erase_eq]
        rfl)
      obtain ⟨W9, hW9⟩ : ∃ W9, W9 = wr.alloc (.cells #[.int .i64 u.k, .slice k4 u.ns.length l4, .slice k5 u.xs.length l5] 36) := ⟨_, rfl⟩
      have hb9 : Below W.heap.size W W9 := by rw [hW9]; exact HBL.out.alloc HBL.out.size _
      have hU := one_row HIN.out
      have hcl : u.cells.toArray = #[.int .i64 u.k, .slice k4 u.ns.length l4, .slice k5 u.xs.length l5] := by unfold Ty.cells; rw [E4.out, E5.out]
      rw [hcl, ← hW9] at hU
      have hTw : T < wr.heap.size := HB.out.lt
      have hUS : (Ty.mk 5 .no [] (.at_ wr.heap.size 0 1) [u]).Sep (fun b => P b ∨ A + 1 + 1 ≤ b) := by
        rw [Ty.sep_iff]
        refine ⟨trivial, .inr (by have h1 := HBL.out.size; have h2 := HWS.out; omega), fun y hy => ?_⟩
        obtain rfl : y = u := by simpa [Ty.xs] using hy
        exact HSEP.out.mono (fun b hb => by
          rcases hb with h | h
          · exact .inl h
          · exact .inr (by have h1 := HWT.out; have h2 := HWS.out; omega))
      have HW9 := Lib.hid hW9; have B9 := Lib.hid hb9
      have hbr := BR.out.below (B9.out) BR.out.lt
      have r0 := hbr.cell 0; have r1 := hbr.cell 1; have r2 := hbr.cell 2
      have s0 := hbr.frozen 0; have s1 := hbr.frozen 1; have s2 := hbr.frozen 2
      simp at r0 r1 r2
      obtain ⟨WF, hWF⟩ : ∃ WF, WF = ((W9.setCell ⟨A + 1, 0, none⟩ (.int .i64 5)).setCell ⟨A + 1, 1, none⟩ (.slice none 0 0)).setCell ⟨A + 1, 2, none⟩ (.slice (some ⟨wr.heap.size, 0, none⟩) 1 1) := ⟨_, rfl⟩
      have hres := res_storedE (u := Ty.mk 5 .no [] (.at_ wr.heap.size 0 1) [u]) (k4 := none) (k5 := (some ⟨wr.heap.size, 0, none⟩)) (l4 := 0) (l5 := 1) (R := A + 1) (by rw [HA.out]; omega) HP.out (HBW.out.trans ((B9.out).mono HBW.out.size)) hbr (hU) (hUS) (rfl) (rfl) hWF
      have HRES := Lib.hid hres; have HWF := Lib.hid hWF
      clear HWF
      have hbr0 := BR.out.below HBL.out BR.out.lt
      have hlr0 := hbr0.lt
      have hWF2 : WF = (((wr.setCell ⟨A + 1, 0, none⟩ (.int .i64 5)).setCell ⟨A + 1, 1, none⟩ (.slice none 0 0)).setCell ⟨A + 1, 2, none⟩ (.slice (some ⟨wr.heap.size, 0, none⟩) 1 1)).alloc (.cells #[.int .i64 u.k, .slice k4 u.ns.length l4, .slice k5 u.xs.length l5] 36) := by
        rw [hWF, hW9]
        simp [go_sem, hlr0]
      have HWF := Lib.hid hWF2
      clear hres hWF hbr hb9 hU hcl hUS hlt hW9 r0 r1 r2 s0 s1 s2 hWF2 hlr0 hbr0
      have hbr := BR.out.below HBL.out BR.out.lt
      have r0 := hbr.cell 0; have r1 := hbr.cell 1; have r2 := hbr.cell 2
      have s0 := hbr.frozen 0; have s1 := hbr.frozen 1; have s2 := hbr.frozen 2
      simp at r0 r1 r2
      have hlr := hbr.lt
      clear hbr
      go_wp2_with fail
      rw [← HWF.out]
      obtain ⟨hF, hJ⟩ := HRES.out
      have f0 := hF.cell 0; have f1 := hF.cell 1; have f2 := hF.cell 2
      simp [Ty.k, Ty.ns, Ty.xs] at f0 f1 f2
      refine bodyPost_ret (v := .agg #[.int .i64 5, .slice none 0 0, .slice (some ⟨wr.heap.size, 0, none⟩) 1 1]) (by simp [results, Tryz.results52, go_sem, f0, f1, f2]) rfl ?_
      rw [HRS.out]
      exact hJ
end Go.Proofs.YtjpdbhhjlnmacaaGreat

/- (*checker).own, (*checker).check of any expression (printed by wip/gen_check.py). -/
namespace Go.Proofs.YtjpdbhhjlnmacaaGreat
set_option linter.unusedVariables false
open Go.RowKit

theorem cown_any (C b o : Nat) (x : Exp) (K : Ty) (vp : Option Addr) (vc : Nat) (vs : List Var) (P : Nat → Prop) (w : World) (h : OwnIn C b o x K vp vc vs P w) (hw : wantsP x.k ≠ -2) (hl : wantsP x.k < 0 ∨ (K.xs.length : Int) = wantsP x.k) :
    Calls Tryz.prog 52 #[.pointer (some ⟨C, 0, none⟩), .pointer (some ⟨b, o, none⟩), K.xa.val K.xs.length] w fun e w' => GaveE (ownP x K.xs vs) P w e w' := by
  have hwk : wantsP x.k = if x.k = 1 ∨ x.k = 2 then 0 else if x.k = 3 ∨ x.k = 4 ∨ x.k = 18 ∨ (20 ≤ x.k ∧ x.k ≤ 23) then 1 else if (5 ≤ x.k ∧ x.k ≤ 14) ∨ x.k = 19 then 2 else if x.k = 15 then 3 else if x.k = 16 ∨ x.k = 17 then -1 else -2 := rfl
  by_cases h1 : x.k = 1
  · exact cown_const C b o x K vp vc vs P w h h1
  by_cases h2 : x.k = 2
  · exact cown_var C b o x K vp vc vs P w h h2
  rw [if_neg (by omega)] at hwk
  by_cases h15 : x.k = 15
  · rw [if_neg (by omega), if_neg (by omega), if_pos h15] at hwk
    exact cown_if C b o x K vp vc vs P w h h15 (by omega)
  by_cases h16 : x.k = 16
  · exact cown_list C b o x K vp vc vs P w h h16
  by_cases h17 : x.k = 17
  · exact cown_rec C b o x K vp vc vs P w h h17
  by_cases h18 : x.k = 18
  · rw [if_pos (by omega)] at hwk
    exact cown_field C b o x K vp vc vs P w h h18 (by omega)
  by_cases h19 : x.k = 19
  · rw [if_neg (by omega), if_pos (by omega)] at hwk
    exact cown_index C b o x K vp vc vs P w h h19 (by omega)
  by_cases hu : x.k = 3 ∨ x.k = 4 ∨ x.k = 18 ∨ (20 ≤ x.k ∧ x.k ≤ 23)
  · rw [if_pos hu] at hwk
    exact cown_unary C b o x K vp vc vs P w h h1 h2 h15 h16 h17 h18 h19 (by omega)
  rw [if_neg hu] at hwk
  by_cases hb : (5 ≤ x.k ∧ x.k ≤ 14) ∨ x.k = 19
  · rw [if_pos hb] at hwk
    exact cown_binary C b o x K vp vc vs P w h h1 h2 h15 h16 h17 h18 h19 (by omega)
  rw [if_neg hb, if_neg h15, if_neg (by omega)] at hwk
  exact absurd hwk hw

mutual
/-- An expression's type, or the error. -/
def checkP (vs : List Var) : Exp → Except Int Ty
  | .mk k s v na ns xa xs => match checkAll vs xs with
    | .error e => .error e
    | .ok ks => match ownP (.mk k s v na ns xa xs) ks vs with
      | .error e => .error e
      | .ok t => if t.RightB then .ok t else .error 15
def checkAll (vs : List Var) : List Exp → Except Int (List Ty)
  | [] => .ok []
  | x :: xs => match checkP vs x with
    | .error e => .error e
    | .ok t => match checkAll vs xs with
      | .error e => .error e
      | .ok ts => .ok (t :: ts)
end
/-- What is left once the kids' types are known. -/
def restP (x : Exp) (vs : List Var) (r : Except Int (List Ty)) : Except Int Ty := match r with
  | .error e => .error e
  | .ok ks => match ownP x ks vs with
    | .error e => .error e
    | .ok t => if t.RightB then .ok t else .error 15
theorem checkP_eq (vs : List Var) (x : Exp) : checkP vs x = restP x vs (checkAll vs x.xs) := by
  cases x
  rw [checkP]
  rfl
/-- More in front. -/
def ahead (us : List Ty) (r : Except Int (List Ty)) : Except Int (List Ty) := match r with | .ok ts => .ok (us ++ ts) | .error e => .error e
theorem ahead_nil (r : Except Int (List Ty)) : ahead [] r = r := by cases r <;> rfl
theorem checkAll_drop {vs : List Var} {xs : List Exp} {i : Nat} (hi : i < xs.length) : checkAll vs (xs.drop i) = match checkP vs (xs[i]'hi) with
    | .error e => .error e
    | .ok t => ahead [t] (checkAll vs (xs.drop (i + 1))) := by
  rw [List.drop_eq_getElem_cons hi, checkAll]
  cases checkP vs xs[i] with
  | error e => rfl
  | ok t => cases checkAll vs (xs.drop (i + 1)) <;> rfl
theorem ahead_ahead (us vs : List Ty) (r : Except Int (List Ty)) : ahead us (ahead vs r) = ahead (us ++ vs) r := by cases r <;> simp [ahead]
theorem checkP_right {vs : List Var} {x : Exp} {t : Ty} (h : checkP vs x = .ok t) : t.RightB = true := by
  rw [checkP_eq] at h
  unfold restP at h
  cases h1 : checkAll vs x.xs with
  | error e => rw [h1] at h; cases h
  | ok ks =>
    rw [h1] at h
    simp only [] at h
    cases h2 : ownP x ks vs with
    | error e => rw [h2] at h; cases h
    | ok u =>
      rw [h2] at h
      simp only [] at h
      split at h
      · injection h with h; subst h; assumption
      · cases h
theorem nthT_erase (ks : List Ty) (i : Nat) : nthT (ks.map Ty.erase) i = (nthT ks i).erase := by
  simp only [nthT, List.getD_eq_getElem?_getD, List.getElem?_map]
  cases ks[i]? <;> rfl
theorem foldJ_eraseAll : ∀ (a : Ty) (l : List Ty), foldJ a (l.map Ty.erase) = foldJ a l
  | a, [] => rfl
  | a, x :: l => by
    simp only [List.map_cons, foldJ, Ty.joinT_eraseR]
    congr 1
    funext v
    exact foldJ_eraseAll v l
theorem outU_erase (k : Int) (t : Ty) : (outU k t.erase).erase = (outU k t).erase := by
  unfold outU
  repeat' split
  all_goals first | rfl | exact Ty.ee t
theorem unaryP_erase (k : Int) (t : Ty) : unaryP k t.erase = unaryP k t := by
  unfold unaryP
  rw [Ty.erase_k, outU_erase]
theorem binaryP_erase (k : Int) (a b : Ty) : binaryP k a.erase b.erase = binaryP k a b := by
  unfold binaryP
  rw [Ty.joinT_erase, Ty.erase_k, Ty.erase_k]
theorem ownP_erase (x : Exp) (ks : List Ty) (vs : List Var) : ownP x (ks.map Ty.erase) vs = ownP x ks vs := by
  have hmm : (ks.map Ty.erase).map Ty.erase = ks.map Ty.erase := by
    rw [List.map_map]
    exact List.map_congr_left (fun y _ => Ty.ee y)
  unfold ownP
  simp only [nthT_erase, Ty.erase_k, Ty.joinT_erase, foldJ_eraseAll, hmm, Ty.erase_ns, Ty.erase_xs, Ty.ee, unaryP_erase, binaryP_erase, List.length_map]
theorem restP_ahead (x : Exp) (us : List Ty) (vs : List Var) : restP x vs (ahead (us.map Ty.erase) (.ok [])) = restP x vs (.ok us) := by
  simp only [ahead, List.append_nil, restP, ownP_erase]
/-- What check works on. -/
structure CheckIn (C b o : Nat) (x : Exp) (vp : Option Addr) (vc : Nat) (vs : List Var) (P : Nat → Prop) (w : World) : Prop where
  hP : ∀ b, P b → b < w.heap.size
  hx : PExp w b o x
  hc : Blk w C 64 #[.slice vp vs.length vc]
  hv : VarsIn w vp vc vs
  hvs : ∀ v, v ∈ vs → v.t.Sep P
  hr : ∃ n, x.rightB n = true
theorem CheckIn.below {C b o : Nat} {x : Exp} {vp : Option Addr} {vc : Nat} {vs : List Var} {P : Nat → Prop} {w w' : World} (h : CheckIn C b o x vp vc vs P w) (hb : Below w.heap.size w w') : CheckIn C b o x vp vc vs P w' :=
  ⟨fun b hb' => Nat.lt_of_lt_of_le (h.hP b hb') hb.size, h.hx.below hb, h.hc.below hb h.hc.lt, h.hv.below hb, h.hvs, h.hr⟩
theorem xright_kid {x y : Exp} {n : Nat} (h : x.rightB n = true) (hy : y ∈ x.xs) : y.rightB (n + 1) = true := by
  rw [Exp.rightB_eq] at h
  simp only [Bool.and_eq_true] at h
  have hall : ∀ (l : List Exp), Exp.rightAll l (n + 1) = true → y ∈ l → y.rightB (n + 1) = true := fun l => by
    induction l with
    | nil => intro _ hm; simp at hm
    | cons z l ihl =>
      intro h1 hm
      simp only [Exp.rightAll, Bool.and_eq_true] at h1
      rcases List.mem_cons.1 hm with rfl | hm
      · exact h1.1
      · exact ihl h1.2 hm
  exact hall x.xs h.2 hy
theorem xright_wants {x : Exp} {n : Nat} (h : x.rightB n = true) : wantsP x.k ≠ -2 ∧ (wantsP x.k < 0 ∨ (x.xs.length : Int) = wantsP x.k) := by
  rw [Exp.rightB_eq] at h
  simp only [Bool.and_eq_true, nodeP, Bool.or_eq_true, decide_eq_true_eq] at h
  exact ⟨h.1.2.1.1.1, h.1.2.1.1.2⟩

set_option maxHeartbeats 8000000 in
set_option maxRecDepth 100000 in
theorem check_step (d : Nat) (ih : ∀ (C b o : Nat) (x : Exp) (vp : Option Addr) (vc : Nat) (vs : List Var) (P : Nat → Prop) (w : World), x.sz ≤ d → CheckIn C b o x vp vc vs P w →
      Calls Tryz.prog 32 #[.pointer (some ⟨C, 0, none⟩), .pointer (some ⟨b, o, none⟩)] w fun e w' => GaveE (checkP vs x) P w e w')
    (C b o : Nat) (x : Exp) (vp : Option Addr) (vc : Nat) (vs : List Var) (P : Nat → Prop) (w : World) (hd : x.sz ≤ d + 1) (h : CheckIn C b o x vp vc vs P w) :
    Calls Tryz.prog 32 #[.pointer (some ⟨C, 0, none⟩), .pointer (some ⟨b, o, none⟩)] w fun e w' => GaveE (checkP vs x) P w e w' := by
  obtain ⟨W, hW⟩ : ∃ W, W = w.alloc (.cells #[.int .i64 0, .slice none 0 0, .slice none 0 0] 36) := ⟨_, rfl⟩
  have hBW : Below w.heap.size w W := by rw [hW]; exact (Below.refl _ w).alloc (Nat.le_refl _) _
  have hbr : Blk W w.heap.size 36 #[.int .i64 0, .slice none 0 0, .slice none 0 0] := by rw [hW]; exact Blk.new w 36 _
  have hWS : W.heap.size = w.heap.size + 1 := by rw [hW]; simp
  have hIW := h.below hBW
  obtain ⟨p9, q9, e9, hxk⟩ := xitems_at hIW.hx.in
  have x9 := hIW.hx.c9
  rw [e9] at x9
  obtain ⟨R, hR⟩ : ∃ R, R = checkP vs x := ⟨_, rfl⟩
  rw [← hR]
  obtain ⟨E, hE⟩ : ∃ E, E = checkAll vs x.xs := ⟨_, rfl⟩
  have hR2 : R = restP x vs E := by rw [hR, checkP_eq, hE]
  have hMb : x.xs.length ≤ 879609302195 := hIW.hx.in.ok.2.2.2.1
  obtain ⟨M, hM⟩ : ∃ M, M = x.xs.length := ⟨_, rfl⟩
  obtain ⟨A, hA⟩ : ∃ A, A = w.heap.size := ⟨_, rfl⟩
  rw [← hM] at x9 hMb
  rw [← hA] at hbr hWS
  obtain ⟨hwant, hlen⟩ := (fun ⟨n, h'⟩ => xright_wants h' : (∃ n, x.rightB n = true) → _) h.hr
  have hrk : ∀ y, y ∈ x.xs → ∃ n, y.rightB n = true := fun y hy => by
    obtain ⟨n, h'⟩ := h.hr
    exact ⟨_, xright_kid h' hy⟩
  obtain ⟨i0, hi0, hz0, hz1, hz2⟩ := info_parts tty_facts'
  have HW := Lib.hid hW; have HBW := Lib.hid hBW; have HBR := Lib.hid hbr; have HI := Lib.hid hIW; have HP := Lib.hid h.hP; have HA := Lib.hid hA; have HM := Lib.hid hM; have HR2 := Lib.hid hR2; have HE := Lib.hid hE; have HIH := Lib.hid ih; have HXK := Lib.hid hxk; have HWS := Lib.hid hWS; have HWN := Lib.hid hwant; have HLN := Lib.hid hlen; have HRK := Lib.hid hrk
  have HMM := Lib.hid (show ∀ y, y ∈ x.xs → y.sz ≤ d from fun y hy => by have := Exp.size_mem hy; omega)
  have HX9 := Lib.hid x9
  clear hW hBW hbr hIW hxk hR hR2 hE hM hA hwant hlen hrk h ih hd e9 hWS
  go_enter Tryz.func32, Tryz.ntmps32
  go_upto_region 1 with fail
  rw [← HW.out, ← HA.out]
  go_wp2_with fail
  clear x9
  go_loopw [5, 13] (fun sv iv wr => ∃ (i : Nat) (us : List Ty) (ax : Option Addr) (cx : Nat), sv = .slice ax us.length cx ∧ iv = .int .i64 (i : Int) ∧ i ≤ M ∧ Hid (us.length = i) ∧ Hid (E = ahead (us.map Ty.erase) (checkAll vs (x.xs.drop i))) ∧ Hid (∀ u, u ∈ us → u.rightB 1 = true) ∧
    Hid (Rowed tyE P W.heap.size 36 wr us (.slice ax us.length cx)) ∧ Hid (Below W.heap.size W wr)) (fun _ iv _ => M - (intOf iv).toNat)
  case atStart => exact ⟨0, [], none, 0, rfl, rfl, by omega, Lib.hid rfl, Lib.hid (by rw [HE.out]; exact (ahead_nil _).symm), Lib.hid (fun u hu => by simp at hu), Lib.hid (rowed_start _), Lib.hid (Below.refl _ _)⟩
  case round =>
    obtain ⟨i, us, ax, cx, rfl, rfl, hi, HUL, HEI, HUR, HG, HBL⟩ := hrel
    by_cases hlt : i < M
    · have hil : i < x.xs.length := by rw [← HM.out]; exact hlt
      have x9 := (HBL.out.cell (p := ⟨b, o + 9, none⟩) HI.out.hx.2.1).trans HX9.out
      obtain ⟨xb, xo, rfl, hpx0, hlc⟩ := HXK.out i hil
      rw [← HM.out] at hlc
      obtain ⟨y, hy⟩ : ∃ y, y = x.xs[i]'hil := ⟨_, rfl⟩
      have hym : y ∈ x.xs := by rw [hy]; simp
      rw [← hy] at hpx0
      have hpx := hpx0.below HBL.out
      have hIr := HI.out.below HBL.out
      have hc := HIH.out C xb (xo + i * 10) y vp vc vs P wr (HMM.out y hym) ⟨hIr.hP, hpx, hIr.hc, hIr.hv, hIr.hvs, HRK.out y hym⟩
      obtain ⟨JR, hJR⟩ : ∃ JR, JR = checkP vs y := ⟨_, rfl⟩
      rw [← hJR] at hc
      have hEN := checkAll_drop (vs := vs) hil
      rw [← hy, ← hJR] at hEN
      have hk0 : (0 : Int) ≤ (i : Int) := by omega
      have hk1 : (i : Int) < (M : Int) := by omega
      have HC := Lib.hid hc; have HJR := Lib.hid hJR; have HEN := Lib.hid hEN
      have hzr : W.heap.size ≤ wr.heap.size := HBL.out.size
      clear hc hpx hpx0 hy hym hIr hJR hEN hil
      go_wp2_with fail
      refine HC.out.mono ?_
      cases JR with
      | error k =>
        rintro e w6 ⟨hb6, rfl⟩
        have B6 := Lib.hid (HBL.out.trans (hb6.mono hzr))
        have HRN : Hid (R = .error k) := Lib.hid (by rw [HR2.out, HEI.out, HEN.out]; rfl)
        clear hb6 x9
        unfold gave
        go_wp2
        refine ⟨rfl, HBW.out.trans (B6.out.mono HBW.out.size), ?_⟩
        rw [HRN.out]
        rfl
      | ok v =>
        rintro e w6 ⟨hb6, u, rfl, hue, hui, hus⟩
        obtain ⟨a4, b4, g4⟩ := hui.nslice
        obtain ⟨a5, b5, g5⟩ := hui.xslice
        unfold Ty.agg
        rw [g4, g5]
        have hz6 := hb6.size
        have hg6 := HG.out.below hb6
        have hred : Reads (w6.alloc (.cells #[.int .i64 u.k, .slice a4 u.ns.length b4, .slice a5 u.xs.length b5] 36)) (w6.heap.size + 1) 3 (some ⟨w6.heap.size, 0, none⟩) 1 u.cells := by
          unfold Ty.cells; rw [g4, g5]; exact row_reads w6 _ 36
        have hown6 := hg6.items.alloc (.cells #[.int .i64 u.k, .slice a4 u.ns.length b4, .slice a5 u.xs.length b5] 36)
        have hxz : ∀ b, (Value.slice ax us.length cx).ownBlock = some b → b < wr.heap.size := fun b hb => (HG.out.items.lt b hb).2
        have HG6 := Lib.hid hg6; have HRED := Lib.hid hred; have HOWN6 := Lib.hid hown6; have HUI := Lib.hid hui; have HUS := Lib.hid hus; have HUER := Lib.hid hue; have HXZ := Lib.hid hxz; have HBL6 := Lib.hid (HBL.out.trans (hb6.mono hzr))
        have hul : us.length ≤ M := by rw [HUL.out]; exact hi
        have HPW := Lib.hid (fun b (hb : P b) => HI.out.hP b hb)
        clear hg6 hred hown6 hui hus hue hxz hb6 g4 g5 x9
        go_wp2_with (at_builtin; refine wpList_append_any _ rfl _ _ 34 rfl W.heap.size 36 i0 (.agg #[.int .i64 0, .slice none 0 0, .slice none 0 0]) 3 56 Tryz.underlying34 hi0 hz0 hz1 hz2 rfl (by decide) _ us.length (tyE.row us) rfl HOWN6.out (w6.heap.size + 1) _ 1 _ u.cells rfl HRED.out (tyE.one u) ?c1 ?c2 ?c3 ?_)
        case c1 => unfold maxLen; omega
        case c2 => omega
        case c3 => simp; omega
        intro v' w8 hown' hgrow hor
        have hg8 := Rowed.item (Rowed.below HG6.out ((Below.refl _ w6).alloc (Nat.le_refl _) (.cells #[.int .i64 u.k, .slice a4 u.ns.length b4, .slice a5 u.xs.length b5] 36))) HPW.out (by simp; omega) (HUI.out.below ((Below.refl _ w6).alloc (Nat.le_refl _) (.cells #[.int .i64 u.k, .slice a4 u.ns.length b4, .slice a5 u.xs.length b5] 36))) HUS.out hzr HXZ.out hown' hgrow (by simpa using hor)
        have hb8 := (HBL6.out.alloc HBL6.out.size (.cells #[.int .i64 u.k, .slice a4 u.ns.length b4, .slice a5 u.xs.length b5] 36)).grown hgrow (by have := HBL6.out.size; simp; omega) (fun k hk => own_ge HG6.out.items hk)
        obtain ⟨ax', cx', rfl⟩ := row_form hown'
        have HG8 := Lib.hid hg8; have HB8 := Lib.hid hb8
        have HUR2 : Hid (∀ u', u' ∈ us ++ [u] → u'.rightB 1 = true) := Lib.hid (fun u' hu' => by
          rcases List.mem_append.1 hu' with hu' | hu'
          · exact HUR.out u' hu'
          · obtain rfl : u' = u := by simpa using hu'
            have := checkP_right HJR.out.symm
            rw [← HUER.out, Ty.RightB_erase] at this
            unfold Ty.RightB at this
            rw [Bool.and_eq_true] at this
            exact this.2)
        have HE2 : Hid (E = ahead ((us ++ [u]).map Ty.erase) (checkAll vs (x.xs.drop (i + 1)))) := Lib.hid (by
          rw [HEI.out, HEN.out]
          show ahead _ (ahead [v] _) = _
          rw [ahead_ahead, List.map_append, List.map_cons, List.map_nil, HUER.out])
        clear hg8 hb8 hown' hgrow hor
        go_wp2
        go_roundw
        case rel => exact ⟨i + 1, us ++ [u], ax', cx', by simp, by go_num, by omega, Lib.hid (by simp [HUL.out]), HE2, HUR2, by simpa using HG8, HB8⟩
        case measure => simp [intOf]; omega
    · obtain rfl : i = M := by omega
      have hIr := HI.out.below HBL.out
      have hgi := HG.out
      obtain ⟨sx, hsx, hlx, hspx⟩ := trowLies_of_own hgi.items
      obtain ⟨K, hK⟩ : ∃ K, K = Ty.mk 0 .no [] sx us := ⟨_, rfl⟩
      have hKxs : K.xs = us := by rw [hK]; rfl
      have hKxa : K.xa = sx := by rw [hK]; rfl
      have hKI : K.In wr := by
        rw [hK, Ty.in_iff]
        exact ⟨⟨by show i64r 0; unfold i64r; decide, by show 0 ≤ _; omega, by show us.length ≤ _; rw [HUL.out]; omega, fun s hs => by simp [Ty.ns] at hs⟩, rfl, hlx, fun y hy => (hgi.each y hy).1⟩
      have hKS : K.Sep (fun b => P b ∨ (W.heap.size ≤ b ∧ b < wr.heap.size)) := by
        have h1 : K.Sep (fun b => P b ∨ W.heap.size ≤ b) := by
          rw [hK, Ty.sep_iff]
          exact ⟨trivial, hspx.mono (fun b hb => .inr hb), fun y hy => (hgi.each y hy).2.mono (fun b hb => hb.1)⟩
        exact (h1.and hKI.sep).mono (fun b hb => by
          rcases hb.1 with h | h
          · exact .inl h
          · exact .inr ⟨h, hb.2⟩)
      have hown := cown_any C b o x K vp vc vs (fun b => P b ∨ (W.heap.size ≤ b ∧ b < wr.heap.size)) wr ⟨fun b hb => by
          rcases hb with h | h
          · exact hIr.hP b h
          · exact h.2, hIr.hx, hIr.hc, hIr.hv, fun v hv => (hIr.hvs v hv).mono (fun b hb => .inl hb), hKI, hKS, fun k hk => HUR.out k (by rw [← hKxs]; exact hk)⟩ HWN.out (by rw [hKxs, HUL.out, HM.out]; exact HLN.out)
      rw [hKxs, hKxa, ← hsx] at hown
      have hR3 : R = restP x vs (.ok us) := by
        rw [HR2.out, HEI.out, HM.out, List.drop_length]
        exact restP_ahead x us vs
      obtain ⟨O, hO⟩ : ∃ O, O = ownP x us vs := ⟨_, rfl⟩
      rw [← hO] at hown
      unfold restP at hR3
      simp only [] at hR3
      rw [← hO] at hR3
      have HR3 := Lib.hid hR3
      have HC := Lib.hid hown
      have hzr : W.heap.size ≤ wr.heap.size := HBL.out.size
      have t1 : decide ((i : Int) < (i : Int)) = false := by simp
      clear hR3 hown hIr hgi hsx hlx hspx hK hKxs hKxa hKI hKS hO hlt
      go_wp2_with fail
      refine HC.out.mono ?_
      cases O with
      | error k =>
        rintro e w6 ⟨hb6, rfl⟩
        have B6 := Lib.hid (HBL.out.trans (hb6.mono hzr))
        have HRN : Hid (R = .error k) := HR3
        clear hb6
        unfold gave
        go_wp2
        refine ⟨rfl, HBW.out.trans (B6.out.mono HBW.out.size), ?_⟩
        rw [HRN.out]
        rfl
      | ok v =>
        rintro e w6 ⟨hb6, u, rfl, hue, hui, hus⟩
        obtain ⟨k4, l4, f4⟩ := hui.nslice
        obtain ⟨k5, l5, f5⟩ := hui.xslice
        have hag : u.agg = .agg #[.int .i64 u.k, .slice k4 u.ns.length l4, .slice k5 u.xs.length l5] := by unfold Ty.agg; rw [f4, f5]
        obtain ⟨W7, hW7⟩ : ∃ W7, W7 = w6.alloc (.cells #[.int .i64 u.k, .slice k4 u.ns.length l4, .slice k5 u.xs.length l5] 36) := ⟨_, rfl⟩
        have hb7 : Below W.heap.size W W7 := by rw [hW7]; exact (HBL.out.trans (hb6.mono hzr)).alloc (Nat.le_trans hzr hb6.size) _
        have hbu : Blk W7 w6.heap.size 36 #[.int .i64 u.k, .slice k4 u.ns.length l4, .slice k5 u.xs.length l5] := by rw [hW7]; exact Blk.new w6 36 _
        have hu7 : u.In W7 := by rw [hW7]; exact hui.below ((Below.refl _ _).alloc (Nat.le_refl _) _)
        have htr := tright_any u W7 hu7
        have hRB : u.RightB = v.RightB := by rw [← hue, Ty.RightB_erase]
        rw [hag] at htr ⊢
        have hus2 : u.Sep (fun b => P b ∨ A + 1 ≤ b) := hus.mono (fun b hb => by
          have h2 := HWS.out
          rcases hb with hb | hb
          · rcases hb with h | h
            · exact .inl h
            · exact .inr (by omega)
          · exact .inr (by omega))
        obtain ⟨g, hg⟩ : ∃ g, g = w6.heap.size := ⟨_, rfl⟩
        rw [← hg] at hbu
        have HW7 := Lib.hid hW7; have B7 := Lib.hid hb7; have HBU := Lib.hid hbu; have HU7 := Lib.hid hu7; have HC2 := Lib.hid htr; have HRB := Lib.hid hRB; have HUS := Lib.hid hus2; have HG6 := Lib.hid hg; have F4 := Lib.hid f4; have F5 := Lib.hid f5; have HUE := Lib.hid hue
        clear hW7 hb7 hbu hu7 htr hRB hus2 hg f4 f5 hag hui hus hb6 hue
        go_upto_region 8 with fail
        rw [← HW7.out, ← HG6.out]
        have u0 := HBU.out.cell 0; have u1 := HBU.out.cell 1; have u2 := HBU.out.cell 2
        simp at u0 u1 u2
        go_wp2_with fail
        refine HC2.out.mono ?_
        rintro e w8 ⟨rfl, hb8⟩
        have B8 := Lib.hid (B7.out.trans (hb8.mono B7.out.size))
        have hb8' := HBU.out.below hb8 HBU.out.lt
        have hu8 := HU7.out.below hb8
        have HBU8 := Lib.hid hb8'; have HU8 := Lib.hid hu8
        clear u0 u1 u2 hb8 hb8' hu8
        by_cases hrb : u.RightB = true
        case neg =>
          have hrf : u.RightB = false := by simpa using hrb
          have HRN : Hid (R = .error 15) := Lib.hid (by
            rw [HR3.out]
            show (if v.RightB = true then _ else _) = _
            rw [← HRB.out, if_neg hrb])
          rw [hrf]
          clear hrb
          go_wp2_with fail
          refine (tmust_false _ _ _ rfl).mono ?_
          rintro e w9 ⟨rfl, rfl⟩
          unfold gave
          go_wp2
          refine ⟨rfl, HBW.out.trans (B8.out.mono HBW.out.size), ?_⟩
          rw [HRN.out]
          rfl
        case pos =>
        have HRS : Hid (R = .ok u.erase) := Lib.hid (by
          rw [HR3.out]
          show (if v.RightB = true then _ else _) = _
          rw [← HRB.out, if_pos hrb, HUE.out])
        rw [hrb]
        clear hrb
        have u0 := HBU8.out.cell 0; have u1 := HBU8.out.cell 1; have u2 := HBU8.out.cell 2
        simp at u0 u1 u2
        have hbr := HBR.out.below B8.out HBR.out.lt
        have r0 := hbr.cell 0; have r1 := hbr.cell 1; have r2 := hbr.cell 2
        have s0 := hbr.frozen 0; have s1 := hbr.frozen 1; have s2 := hbr.frozen 2
        simp at r0 r1 r2
        obtain ⟨WF, hWF⟩ : ∃ WF, WF = ((w8.setCell ⟨A, 0, none⟩ (.int .i64 u.k)).setCell ⟨A, 1, none⟩ (.slice k4 u.ns.length l4)).setCell ⟨A, 2, none⟩ (.slice k5 u.xs.length l5) := ⟨_, rfl⟩
        have hres := res_storedE (u := u) (R := A) (by rw [HA.out]; exact Nat.le_refl _) HP.out (HBW.out.trans (B8.out.mono HBW.out.size)) hbr HU8.out HUS.out F4.out F5.out hWF
        have HRES := Lib.hid hres; have HWF := Lib.hid hWF
        clear hres hWF hbr
        go_wp2_with fail
        refine (tmust_true _ _ _ rfl).mono ?_
        rintro e w9 ⟨rfl, rfl⟩
        go_wp2_with fail
        rw [← HWF.out]
        obtain ⟨hF, hJ⟩ := HRES.out
        have f0 := hF.cell 0; have f1 := hF.cell 1; have f2 := hF.cell 2
        simp at f0 f1 f2
        refine bodyPost_ret (v := .agg #[.int .i64 u.k, .slice k4 u.ns.length l4, .slice k5 u.xs.length l5]) (by simp [results, Tryz.results32, go_sem, f0, f1, f2]) rfl ?_
        rw [HRS.out]
        exact hJ
theorem check_any : ∀ (d : Nat) (C b o : Nat) (x : Exp) (vp : Option Addr) (vc : Nat) (vs : List Var) (P : Nat → Prop) (w : World), x.sz ≤ d → CheckIn C b o x vp vc vs P w →
      Calls Tryz.prog 32 #[.pointer (some ⟨C, 0, none⟩), .pointer (some ⟨b, o, none⟩)] w fun e w' => GaveE (checkP vs x) P w e w'
  | 0, _, _, _, x, _, _, _, _, _, hd, _ => by rw [Exp.sz_eq] at hd; omega
  | d + 1, C, b, o, x, vp, vc, vs, P, w, hd, h => check_step d (fun C b o x vp vc vs P w h1 h2 => check_any d C b o x vp vc vs P w h1 h2) C b o x vp vc vs P w hd h
end Go.Proofs.YtjpdbhhjlnmacaaGreat
