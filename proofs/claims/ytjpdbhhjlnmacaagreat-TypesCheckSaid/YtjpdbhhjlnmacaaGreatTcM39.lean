/- The document's parser: levels that hand on what lies below (printed by wip/gen_par3.py). -/
import Derived.Test.YtjpdbhhjlnmacaaGreatTcM38
namespace Go.Proofs.YtjpdbhhjlnmacaaGreat
set_option linter.unusedVariables false
open Go.RowKit

section
variable {p : Nat} {tp : Option Addr} {tc : Nat} {ts : List Tok} {en i j d : Nat} {Q : Exp → Prop}
theorem take_not (s : ByteArray) (hj : j < 9223372036854775807) (hn : tokIs ts j s = false) (W : World) (h : PS W p tp tc ts en j d) : Calls Tryz.prog 93 #[.pointer (some ⟨p, 0, none⟩), .string s] W fun e w' => e = .returned (.bool false) ∧ PS w' p tp tc ts en j d ∧ Only W w' p := by
  have := take_at s h hj
  rw [hn] at this
  exact this
theorem take_yes (s : ByteArray) (hj : j < 9223372036854775807) (hn : tokIs ts j s = true) (W : World) (h : PS W p tp tc ts en j d) : Calls Tryz.prog 93 #[.pointer (some ⟨p, 0, none⟩), .string s] W fun e w' => e = .returned (.bool true) ∧ PS w' p tp tc ts en (j + 1) d ∧ Only W w' p := by
  have := take_at s h hj
  rw [hn] at this
  exact this

set_option maxHeartbeats 8000000 in
set_option maxRecDepth 100000 in
theorem or_pass (hin : ∀ w, PS w p tp tc ts en i d → Calls Tryz.prog 111 #[.pointer (some ⟨p, 0, none⟩)] w fun e w' => PX Q p tp tc ts en j d w e w') (hj : j < 9223372036854775807) (n0 : tokIs ts j ⟨#[124, 124]⟩ = false) (w : World) (h : PS w p tp tc ts en i d) :
    Calls Tryz.prog 92 #[.pointer (some ⟨p, 0, none⟩)] w fun e w' => PX Q p tp tc ts en j d w e w' := by
  obtain ⟨W, hW⟩ : ∃ W, W = w.alloc (.cells zero10 29) := ⟨_, rfl⟩
  have hps := px_ps h
  rw [← hW] at hps
  obtain ⟨A, hA⟩ : ∃ A, A = w.heap.size := ⟨_, rfl⟩
  have HC := Lib.hid (hin W hps); have H0 := Lib.hid h; have HW := Lib.hid hW; have HA := Lib.hid hA
  have HT0 := Lib.hid (fun (W : World) (h : PS W p tp tc ts en j d) => take_not ⟨#[124, 124]⟩ hj n0 W h)
  have hsf := run_store_flt
  clear h hW hA hps hin n0
  go_enter Tryz.func92, Tryz.ntmps92
  go_upto_region 1 with fail
  unfold zero10 at HW
  rw [← HW.out, ← HA.out]
  go_wp2_with fail
  refine HC.out.mono ?_
  rintro e w1 ⟨x, rfl, hq, hxi, hxs, hps1, ho1⟩
  obtain ⟨p8, q8, e8⟩ := hxi.nslice
  obtain ⟨p9, q9, e9⟩ := hxi.xslice
  obtain ⟨p6, q6, e6⟩ := hxi.val.nslice
  obtain ⟨p7, q7, e7⟩ := hxi.val.xslice
  unfold Exp.agg
  rw [e6, e7, e8, e9]
  have hm := mid_start H0.out hxi (by rw [← HW.out]; exact hxs) hps1 (by rw [← HW.out]; exact ho1) e6 e7 e8 e9
  obtain ⟨W1, hW1⟩ : ∃ W1, W1 = w1.alloc (.cells #[.int .i64 x.k, .string x.s, .int .i64 x.v.k, .int .i64 x.v.n, .float .f64 x.v.f, .string x.v.s, .slice p6 x.v.ns.length q6, .slice p7 x.v.xs.length q7, .slice p8 x.ns.length q8, .slice p9 x.xs.length q9] 29) := ⟨_, rfl⟩
  obtain ⟨B, hB⟩ : ∃ B, B = w1.heap.size := ⟨_, rfl⟩
  rw [← hW1, ← HA.out, ← hB] at hm
  have HM := Lib.hid hm; have HQ := Lib.hid hq; have E6 := Lib.hid e6; have E7 := Lib.hid e7; have E8 := Lib.hid e8; have E9 := Lib.hid e9
  have HW1 := Lib.hid hW1; have HB := Lib.hid hB
  clear hm hq hxi hxs hps1 ho1 hW1 hB e6 e7 e8 e9
  go_upto_region 2 with fail
  rw [← HW1.out, ← HB.out]
  go_loopw [] (fun wr => wr = W1) (fun _ => 0)
  case atStart => rfl
  case round =>
    subst hrel
    go_wp2_with fail
    refine (HT0.out _ HM.out.ps).mono ?_
    rintro e W9 ⟨rfl, hpt, hot⟩
    have HM9 := Lib.hid (HM.out.step hpt hot)
    clear hpt hot
    have hbB := HM9.out.bB; have hbA := HM9.out.bA
    unfold Exp.cells at hbB
    rw [E6.out, E7.out, E8.out, E9.out] at hbB
    have c0 := hbB.cell 0; have c1 := hbB.cell 1; have c2 := hbB.cell 2; have c3 := hbB.cell 3; have c4 := hbB.cell 4; have c5 := hbB.cell 5; have c6 := hbB.cell 6; have c7 := hbB.cell 7; have c8 := hbB.cell 8; have c9 := hbB.cell 9
    have r0 := hbA.cell 0; have r1 := hbA.cell 1; have r2 := hbA.cell 2; have r3 := hbA.cell 3; have r4 := hbA.cell 4; have r5 := hbA.cell 5; have r6 := hbA.cell 6; have r7 := hbA.cell 7; have r8 := hbA.cell 8; have r9 := hbA.cell 9
    have s0 := hbA.frozen 0; have s1 := hbA.frozen 1; have s2 := hbA.frozen 2; have s3 := hbA.frozen 3; have s4 := hbA.frozen 4; have s5 := hbA.frozen 5; have s6 := hbA.frozen 6; have s7 := hbA.frozen 7; have s8 := hbA.frozen 8; have s9 := hbA.frozen 9
    simp at c0 c1 c2 c3 c4 c5 c6 c7 c8 c9 r0 r1 r2 r3 r4 r5 r6 r7 r8 r9
    have hAB := HM9.out.hAB
    obtain ⟨WF, hWF⟩ : ∃ WF, WF = ((((((((((W9.setCell ⟨A, 0, none⟩ (.int .i64 x.k)).setCell ⟨A, 1, none⟩ (.string x.s)).setCell ⟨A, 2, none⟩ (.int .i64 x.v.k)).setCell ⟨A, 3, none⟩ (.int .i64 x.v.n)).setCell ⟨A, 4, none⟩ (.float .f64 x.v.f)).setCell ⟨A, 5, none⟩ (.string x.v.s)).setCell ⟨A, 6, none⟩ (.slice p6 x.v.ns.length q6)).setCell ⟨A, 7, none⟩ (.slice p7 x.v.xs.length q7)).setCell ⟨A, 8, none⟩ (.slice p8 x.ns.length q8)).setCell ⟨A, 9, none⟩ (.slice p9 x.xs.length q9)) := ⟨_, rfl⟩
    obtain ⟨hbF, hPX⟩ := mid_end HM9.out HQ.out E6.out E7.out E8.out E9.out hWF
    have HBF := Lib.hid hbF; have HPX := Lib.hid hPX; have HWF := Lib.hid hWF
    clear hbF hPX hWF hbB hbA
    go_wp2_with fail
    rw [← HWF.out]
    have f0 := HBF.out.cell 0; have f1 := HBF.out.cell 1; have f2 := HBF.out.cell 2; have f3 := HBF.out.cell 3; have f4 := HBF.out.cell 4; have f5 := HBF.out.cell 5; have f6 := HBF.out.cell 6; have f7 := HBF.out.cell 7; have f8 := HBF.out.cell 8; have f9 := HBF.out.cell 9
    simp at f0 f1 f2 f3 f4 f5 f6 f7 f8 f9
    refine bodyPost_ret (v := .agg #[.int .i64 x.k, .string x.s, .int .i64 x.v.k, .int .i64 x.v.n, .float .f64 x.v.f, .string x.v.s, .slice p6 x.v.ns.length q6, .slice p7 x.v.xs.length q7, .slice p8 x.ns.length q8, .slice p9 x.xs.length q9]) (by simp [results, Tryz.results92, go_sem, f0, f1, f2, f3, f4, f5, f6, f7, f8, f9]) rfl ?_
    exact HPX.out

set_option maxHeartbeats 8000000 in
set_option maxRecDepth 100000 in
theorem and_pass (hin : ∀ w, PS w p tp tc ts en i d → Calls Tryz.prog 125 #[.pointer (some ⟨p, 0, none⟩)] w fun e w' => PX Q p tp tc ts en j d w e w') (hj : j < 9223372036854775807) (n0 : tokIs ts j ⟨#[38, 38]⟩ = false) (w : World) (h : PS w p tp tc ts en i d) :
    Calls Tryz.prog 111 #[.pointer (some ⟨p, 0, none⟩)] w fun e w' => PX Q p tp tc ts en j d w e w' := by
  obtain ⟨W, hW⟩ : ∃ W, W = w.alloc (.cells zero10 29) := ⟨_, rfl⟩
  have hps := px_ps h
  rw [← hW] at hps
  obtain ⟨A, hA⟩ : ∃ A, A = w.heap.size := ⟨_, rfl⟩
  have HC := Lib.hid (hin W hps); have H0 := Lib.hid h; have HW := Lib.hid hW; have HA := Lib.hid hA
  have HT0 := Lib.hid (fun (W : World) (h : PS W p tp tc ts en j d) => take_not ⟨#[38, 38]⟩ hj n0 W h)
  have hsf := run_store_flt
  clear h hW hA hps hin n0
  go_enter Tryz.func111, Tryz.ntmps111
  go_upto_region 1 with fail
  unfold zero10 at HW
  rw [← HW.out, ← HA.out]
  go_wp2_with fail
  refine HC.out.mono ?_
  rintro e w1 ⟨x, rfl, hq, hxi, hxs, hps1, ho1⟩
  obtain ⟨p8, q8, e8⟩ := hxi.nslice
  obtain ⟨p9, q9, e9⟩ := hxi.xslice
  obtain ⟨p6, q6, e6⟩ := hxi.val.nslice
  obtain ⟨p7, q7, e7⟩ := hxi.val.xslice
  unfold Exp.agg
  rw [e6, e7, e8, e9]
  have hm := mid_start H0.out hxi (by rw [← HW.out]; exact hxs) hps1 (by rw [← HW.out]; exact ho1) e6 e7 e8 e9
  obtain ⟨W1, hW1⟩ : ∃ W1, W1 = w1.alloc (.cells #[.int .i64 x.k, .string x.s, .int .i64 x.v.k, .int .i64 x.v.n, .float .f64 x.v.f, .string x.v.s, .slice p6 x.v.ns.length q6, .slice p7 x.v.xs.length q7, .slice p8 x.ns.length q8, .slice p9 x.xs.length q9] 29) := ⟨_, rfl⟩
  obtain ⟨B, hB⟩ : ∃ B, B = w1.heap.size := ⟨_, rfl⟩
  rw [← hW1, ← HA.out, ← hB] at hm
  have HM := Lib.hid hm; have HQ := Lib.hid hq; have E6 := Lib.hid e6; have E7 := Lib.hid e7; have E8 := Lib.hid e8; have E9 := Lib.hid e9
  have HW1 := Lib.hid hW1; have HB := Lib.hid hB
  clear hm hq hxi hxs hps1 ho1 hW1 hB e6 e7 e8 e9
  go_upto_region 2 with fail
  rw [← HW1.out, ← HB.out]
  go_loopw [] (fun wr => wr = W1) (fun _ => 0)
  case atStart => rfl
  case round =>
    subst hrel
    go_wp2_with fail
    refine (HT0.out _ HM.out.ps).mono ?_
    rintro e W9 ⟨rfl, hpt, hot⟩
    have HM9 := Lib.hid (HM.out.step hpt hot)
    clear hpt hot
    have hbB := HM9.out.bB; have hbA := HM9.out.bA
    unfold Exp.cells at hbB
    rw [E6.out, E7.out, E8.out, E9.out] at hbB
    have c0 := hbB.cell 0; have c1 := hbB.cell 1; have c2 := hbB.cell 2; have c3 := hbB.cell 3; have c4 := hbB.cell 4; have c5 := hbB.cell 5; have c6 := hbB.cell 6; have c7 := hbB.cell 7; have c8 := hbB.cell 8; have c9 := hbB.cell 9
    have r0 := hbA.cell 0; have r1 := hbA.cell 1; have r2 := hbA.cell 2; have r3 := hbA.cell 3; have r4 := hbA.cell 4; have r5 := hbA.cell 5; have r6 := hbA.cell 6; have r7 := hbA.cell 7; have r8 := hbA.cell 8; have r9 := hbA.cell 9
    have s0 := hbA.frozen 0; have s1 := hbA.frozen 1; have s2 := hbA.frozen 2; have s3 := hbA.frozen 3; have s4 := hbA.frozen 4; have s5 := hbA.frozen 5; have s6 := hbA.frozen 6; have s7 := hbA.frozen 7; have s8 := hbA.frozen 8; have s9 := hbA.frozen 9
    simp at c0 c1 c2 c3 c4 c5 c6 c7 c8 c9 r0 r1 r2 r3 r4 r5 r6 r7 r8 r9
    have hAB := HM9.out.hAB
    obtain ⟨WF, hWF⟩ : ∃ WF, WF = ((((((((((W9.setCell ⟨A, 0, none⟩ (.int .i64 x.k)).setCell ⟨A, 1, none⟩ (.string x.s)).setCell ⟨A, 2, none⟩ (.int .i64 x.v.k)).setCell ⟨A, 3, none⟩ (.int .i64 x.v.n)).setCell ⟨A, 4, none⟩ (.float .f64 x.v.f)).setCell ⟨A, 5, none⟩ (.string x.v.s)).setCell ⟨A, 6, none⟩ (.slice p6 x.v.ns.length q6)).setCell ⟨A, 7, none⟩ (.slice p7 x.v.xs.length q7)).setCell ⟨A, 8, none⟩ (.slice p8 x.ns.length q8)).setCell ⟨A, 9, none⟩ (.slice p9 x.xs.length q9)) := ⟨_, rfl⟩
    obtain ⟨hbF, hPX⟩ := mid_end HM9.out HQ.out E6.out E7.out E8.out E9.out hWF
    have HBF := Lib.hid hbF; have HPX := Lib.hid hPX; have HWF := Lib.hid hWF
    clear hbF hPX hWF hbB hbA
    go_wp2_with fail
    rw [← HWF.out]
    have f0 := HBF.out.cell 0; have f1 := HBF.out.cell 1; have f2 := HBF.out.cell 2; have f3 := HBF.out.cell 3; have f4 := HBF.out.cell 4; have f5 := HBF.out.cell 5; have f6 := HBF.out.cell 6; have f7 := HBF.out.cell 7; have f8 := HBF.out.cell 8; have f9 := HBF.out.cell 9
    simp at f0 f1 f2 f3 f4 f5 f6 f7 f8 f9
    refine bodyPost_ret (v := .agg #[.int .i64 x.k, .string x.s, .int .i64 x.v.k, .int .i64 x.v.n, .float .f64 x.v.f, .string x.v.s, .slice p6 x.v.ns.length q6, .slice p7 x.v.xs.length q7, .slice p8 x.ns.length q8, .slice p9 x.xs.length q9]) (by simp [results, Tryz.results111, go_sem, f0, f1, f2, f3, f4, f5, f6, f7, f8, f9]) rfl ?_
    exact HPX.out

set_option maxHeartbeats 8000000 in
set_option maxRecDepth 100000 in
theorem cmp_pass (hin : ∀ w, PS w p tp tc ts en i d → Calls Tryz.prog 133 #[.pointer (some ⟨p, 0, none⟩)] w fun e w' => PX Q p tp tc ts en j d w e w') (hj : j < 9223372036854775807) (n0 : tokIs ts j ⟨#[61, 61]⟩ = false) (n1 : tokIs ts j ⟨#[60, 61]⟩ = false) (n2 : tokIs ts j ⟨#[60]⟩ = false) (w : World) (h : PS w p tp tc ts en i d) :
    Calls Tryz.prog 125 #[.pointer (some ⟨p, 0, none⟩)] w fun e w' => PX Q p tp tc ts en j d w e w' := by
  obtain ⟨W, hW⟩ : ∃ W, W = w.alloc (.cells zero10 29) := ⟨_, rfl⟩
  have hps := px_ps h
  rw [← hW] at hps
  obtain ⟨A, hA⟩ : ∃ A, A = w.heap.size := ⟨_, rfl⟩
  have HC := Lib.hid (hin W hps); have H0 := Lib.hid h; have HW := Lib.hid hW; have HA := Lib.hid hA
  have HT0 := Lib.hid (fun (W : World) (h : PS W p tp tc ts en j d) => take_not ⟨#[61, 61]⟩ hj n0 W h)
  have HT1 := Lib.hid (fun (W : World) (h : PS W p tp tc ts en j d) => take_not ⟨#[60, 61]⟩ hj n1 W h)
  have HT2 := Lib.hid (fun (W : World) (h : PS W p tp tc ts en j d) => take_not ⟨#[60]⟩ hj n2 W h)
  have hsf := run_store_flt
  clear h hW hA hps hin n0 n1 n2
  go_enter Tryz.func125, Tryz.ntmps125
  go_upto_region 1 with fail
  unfold zero10 at HW
  rw [← HW.out, ← HA.out]
  go_wp2_with fail
  refine HC.out.mono ?_
  rintro e w1 ⟨x, rfl, hq, hxi, hxs, hps1, ho1⟩
  obtain ⟨p8, q8, e8⟩ := hxi.nslice
  obtain ⟨p9, q9, e9⟩ := hxi.xslice
  obtain ⟨p6, q6, e6⟩ := hxi.val.nslice
  obtain ⟨p7, q7, e7⟩ := hxi.val.xslice
  unfold Exp.agg
  rw [e6, e7, e8, e9]
  have hm := mid_start H0.out hxi (by rw [← HW.out]; exact hxs) hps1 (by rw [← HW.out]; exact ho1) e6 e7 e8 e9
  obtain ⟨W1, hW1⟩ : ∃ W1, W1 = w1.alloc (.cells #[.int .i64 x.k, .string x.s, .int .i64 x.v.k, .int .i64 x.v.n, .float .f64 x.v.f, .string x.v.s, .slice p6 x.v.ns.length q6, .slice p7 x.v.xs.length q7, .slice p8 x.ns.length q8, .slice p9 x.xs.length q9] 29) := ⟨_, rfl⟩
  obtain ⟨B, hB⟩ : ∃ B, B = w1.heap.size := ⟨_, rfl⟩
  rw [← hW1, ← HA.out, ← hB] at hm
  have HM := Lib.hid hm; have HQ := Lib.hid hq; have E6 := Lib.hid e6; have E7 := Lib.hid e7; have E8 := Lib.hid e8; have E9 := Lib.hid e9
  have HW1 := Lib.hid hW1; have HB := Lib.hid hB
  clear hm hq hxi hxs hps1 ho1 hW1 hB e6 e7 e8 e9
  go_upto_region 2 with fail
  rw [← HW1.out, ← HB.out]
  go_wp2_with fail
  refine (HT0.out _ HM.out.ps).mono ?_
  rintro e wt0 ⟨rfl, hpt, hot⟩
  have HM0_ := Lib.hid (HM.out.step hpt hot)
  clear hpt hot
  go_wp2_with fail
  refine (HT1.out _ HM0_.out.ps).mono ?_
  rintro e wt1 ⟨rfl, hpt, hot⟩
  have HM1_ := Lib.hid (HM0_.out.step hpt hot)
  clear hpt hot
  go_wp2_with fail
  refine (HT2.out _ HM1_.out.ps).mono ?_
  rintro e W9 ⟨rfl, hpt, hot⟩
  have HM9 := Lib.hid (HM1_.out.step hpt hot)
  clear hpt hot
  have hbB := HM9.out.bB; have hbA := HM9.out.bA
  unfold Exp.cells at hbB
  rw [E6.out, E7.out, E8.out, E9.out] at hbB
  have c0 := hbB.cell 0; have c1 := hbB.cell 1; have c2 := hbB.cell 2; have c3 := hbB.cell 3; have c4 := hbB.cell 4; have c5 := hbB.cell 5; have c6 := hbB.cell 6; have c7 := hbB.cell 7; have c8 := hbB.cell 8; have c9 := hbB.cell 9
  have r0 := hbA.cell 0; have r1 := hbA.cell 1; have r2 := hbA.cell 2; have r3 := hbA.cell 3; have r4 := hbA.cell 4; have r5 := hbA.cell 5; have r6 := hbA.cell 6; have r7 := hbA.cell 7; have r8 := hbA.cell 8; have r9 := hbA.cell 9
  have s0 := hbA.frozen 0; have s1 := hbA.frozen 1; have s2 := hbA.frozen 2; have s3 := hbA.frozen 3; have s4 := hbA.frozen 4; have s5 := hbA.frozen 5; have s6 := hbA.frozen 6; have s7 := hbA.frozen 7; have s8 := hbA.frozen 8; have s9 := hbA.frozen 9
  simp at c0 c1 c2 c3 c4 c5 c6 c7 c8 c9 r0 r1 r2 r3 r4 r5 r6 r7 r8 r9
  have hAB := HM9.out.hAB
  obtain ⟨WF, hWF⟩ : ∃ WF, WF = ((((((((((W9.setCell ⟨A, 0, none⟩ (.int .i64 x.k)).setCell ⟨A, 1, none⟩ (.string x.s)).setCell ⟨A, 2, none⟩ (.int .i64 x.v.k)).setCell ⟨A, 3, none⟩ (.int .i64 x.v.n)).setCell ⟨A, 4, none⟩ (.float .f64 x.v.f)).setCell ⟨A, 5, none⟩ (.string x.v.s)).setCell ⟨A, 6, none⟩ (.slice p6 x.v.ns.length q6)).setCell ⟨A, 7, none⟩ (.slice p7 x.v.xs.length q7)).setCell ⟨A, 8, none⟩ (.slice p8 x.ns.length q8)).setCell ⟨A, 9, none⟩ (.slice p9 x.xs.length q9)) := ⟨_, rfl⟩
  obtain ⟨hbF, hPX⟩ := mid_end HM9.out HQ.out E6.out E7.out E8.out E9.out hWF
  have HBF := Lib.hid hbF; have HPX := Lib.hid hPX; have HWF := Lib.hid hWF
  clear hbF hPX hWF hbB hbA
  go_wp2_with fail
  rw [← HWF.out]
  have f0 := HBF.out.cell 0; have f1 := HBF.out.cell 1; have f2 := HBF.out.cell 2; have f3 := HBF.out.cell 3; have f4 := HBF.out.cell 4; have f5 := HBF.out.cell 5; have f6 := HBF.out.cell 6; have f7 := HBF.out.cell 7; have f8 := HBF.out.cell 8; have f9 := HBF.out.cell 9
  simp at f0 f1 f2 f3 f4 f5 f6 f7 f8 f9
  refine bodyPost_ret (v := .agg #[.int .i64 x.k, .string x.s, .int .i64 x.v.k, .int .i64 x.v.n, .float .f64 x.v.f, .string x.v.s, .slice p6 x.v.ns.length q6, .slice p7 x.v.xs.length q7, .slice p8 x.ns.length q8, .slice p9 x.xs.length q9]) (by simp [results, Tryz.results125, go_sem, f0, f1, f2, f3, f4, f5, f6, f7, f8, f9]) rfl ?_
  exact HPX.out

set_option maxHeartbeats 8000000 in
set_option maxRecDepth 100000 in
theorem sum_pass (hin : ∀ w, PS w p tp tc ts en i d → Calls Tryz.prog 134 #[.pointer (some ⟨p, 0, none⟩)] w fun e w' => PX Q p tp tc ts en j d w e w') (hj : j < 9223372036854775807) (n0 : tokIs ts j ⟨#[43]⟩ = false) (n1 : tokIs ts j ⟨#[45]⟩ = false) (w : World) (h : PS w p tp tc ts en i d) :
    Calls Tryz.prog 133 #[.pointer (some ⟨p, 0, none⟩)] w fun e w' => PX Q p tp tc ts en j d w e w' := by
  obtain ⟨W, hW⟩ : ∃ W, W = w.alloc (.cells zero10 29) := ⟨_, rfl⟩
  have hps := px_ps h
  rw [← hW] at hps
  obtain ⟨A, hA⟩ : ∃ A, A = w.heap.size := ⟨_, rfl⟩
  have HC := Lib.hid (hin W hps); have H0 := Lib.hid h; have HW := Lib.hid hW; have HA := Lib.hid hA
  have HT0 := Lib.hid (fun (W : World) (h : PS W p tp tc ts en j d) => take_not ⟨#[43]⟩ hj n0 W h)
  have HT1 := Lib.hid (fun (W : World) (h : PS W p tp tc ts en j d) => take_not ⟨#[45]⟩ hj n1 W h)
  have hsf := run_store_flt
  clear h hW hA hps hin n0 n1
  go_enter Tryz.func133, Tryz.ntmps133
  go_upto_region 1 with fail
  unfold zero10 at HW
  rw [← HW.out, ← HA.out]
  go_wp2_with fail
  refine HC.out.mono ?_
  rintro e w1 ⟨x, rfl, hq, hxi, hxs, hps1, ho1⟩
  obtain ⟨p8, q8, e8⟩ := hxi.nslice
  obtain ⟨p9, q9, e9⟩ := hxi.xslice
  obtain ⟨p6, q6, e6⟩ := hxi.val.nslice
  obtain ⟨p7, q7, e7⟩ := hxi.val.xslice
  unfold Exp.agg
  rw [e6, e7, e8, e9]
  have hm := mid_start H0.out hxi (by rw [← HW.out]; exact hxs) hps1 (by rw [← HW.out]; exact ho1) e6 e7 e8 e9
  obtain ⟨W1, hW1⟩ : ∃ W1, W1 = w1.alloc (.cells #[.int .i64 x.k, .string x.s, .int .i64 x.v.k, .int .i64 x.v.n, .float .f64 x.v.f, .string x.v.s, .slice p6 x.v.ns.length q6, .slice p7 x.v.xs.length q7, .slice p8 x.ns.length q8, .slice p9 x.xs.length q9] 29) := ⟨_, rfl⟩
  obtain ⟨B, hB⟩ : ∃ B, B = w1.heap.size := ⟨_, rfl⟩
  rw [← hW1, ← HA.out, ← hB] at hm
  have HM := Lib.hid hm; have HQ := Lib.hid hq; have E6 := Lib.hid e6; have E7 := Lib.hid e7; have E8 := Lib.hid e8; have E9 := Lib.hid e9
  have HW1 := Lib.hid hW1; have HB := Lib.hid hB
  clear hm hq hxi hxs hps1 ho1 hW1 hB e6 e7 e8 e9
  go_upto_region 2 with fail
  rw [← HW1.out, ← HB.out]
  go_loopw [] (fun wr => wr = W1) (fun _ => 0)
  case atStart => rfl
  case round =>
    subst hrel
    go_wp2_with fail
    refine (HT0.out _ HM.out.ps).mono ?_
    rintro e wt0 ⟨rfl, hpt, hot⟩
    have HM0_ := Lib.hid (HM.out.step hpt hot)
    clear hpt hot
    go_wp2_with fail
    refine (HT1.out _ HM0_.out.ps).mono ?_
    rintro e W9 ⟨rfl, hpt, hot⟩
    have HM9 := Lib.hid (HM0_.out.step hpt hot)
    clear hpt hot
    have hbB := HM9.out.bB; have hbA := HM9.out.bA
    unfold Exp.cells at hbB
    rw [E6.out, E7.out, E8.out, E9.out] at hbB
    have c0 := hbB.cell 0; have c1 := hbB.cell 1; have c2 := hbB.cell 2; have c3 := hbB.cell 3; have c4 := hbB.cell 4; have c5 := hbB.cell 5; have c6 := hbB.cell 6; have c7 := hbB.cell 7; have c8 := hbB.cell 8; have c9 := hbB.cell 9
    have r0 := hbA.cell 0; have r1 := hbA.cell 1; have r2 := hbA.cell 2; have r3 := hbA.cell 3; have r4 := hbA.cell 4; have r5 := hbA.cell 5; have r6 := hbA.cell 6; have r7 := hbA.cell 7; have r8 := hbA.cell 8; have r9 := hbA.cell 9
    have s0 := hbA.frozen 0; have s1 := hbA.frozen 1; have s2 := hbA.frozen 2; have s3 := hbA.frozen 3; have s4 := hbA.frozen 4; have s5 := hbA.frozen 5; have s6 := hbA.frozen 6; have s7 := hbA.frozen 7; have s8 := hbA.frozen 8; have s9 := hbA.frozen 9
    simp at c0 c1 c2 c3 c4 c5 c6 c7 c8 c9 r0 r1 r2 r3 r4 r5 r6 r7 r8 r9
    have hAB := HM9.out.hAB
    obtain ⟨WF, hWF⟩ : ∃ WF, WF = ((((((((((W9.setCell ⟨A, 0, none⟩ (.int .i64 x.k)).setCell ⟨A, 1, none⟩ (.string x.s)).setCell ⟨A, 2, none⟩ (.int .i64 x.v.k)).setCell ⟨A, 3, none⟩ (.int .i64 x.v.n)).setCell ⟨A, 4, none⟩ (.float .f64 x.v.f)).setCell ⟨A, 5, none⟩ (.string x.v.s)).setCell ⟨A, 6, none⟩ (.slice p6 x.v.ns.length q6)).setCell ⟨A, 7, none⟩ (.slice p7 x.v.xs.length q7)).setCell ⟨A, 8, none⟩ (.slice p8 x.ns.length q8)).setCell ⟨A, 9, none⟩ (.slice p9 x.xs.length q9)) := ⟨_, rfl⟩
    obtain ⟨hbF, hPX⟩ := mid_end HM9.out HQ.out E6.out E7.out E8.out E9.out hWF
    have HBF := Lib.hid hbF; have HPX := Lib.hid hPX; have HWF := Lib.hid hWF
    clear hbF hPX hWF hbB hbA
    go_wp2_with fail
    rw [← HWF.out]
    have f0 := HBF.out.cell 0; have f1 := HBF.out.cell 1; have f2 := HBF.out.cell 2; have f3 := HBF.out.cell 3; have f4 := HBF.out.cell 4; have f5 := HBF.out.cell 5; have f6 := HBF.out.cell 6; have f7 := HBF.out.cell 7; have f8 := HBF.out.cell 8; have f9 := HBF.out.cell 9
    simp at f0 f1 f2 f3 f4 f5 f6 f7 f8 f9
    refine bodyPost_ret (v := .agg #[.int .i64 x.k, .string x.s, .int .i64 x.v.k, .int .i64 x.v.n, .float .f64 x.v.f, .string x.v.s, .slice p6 x.v.ns.length q6, .slice p7 x.v.xs.length q7, .slice p8 x.ns.length q8, .slice p9 x.xs.length q9]) (by simp [results, Tryz.results133, go_sem, f0, f1, f2, f3, f4, f5, f6, f7, f8, f9]) rfl ?_
    exact HPX.out

set_option maxHeartbeats 8000000 in
set_option maxRecDepth 100000 in
theorem prod_pass (hin : ∀ w, PS w p tp tc ts en i d → Calls Tryz.prog 135 #[.pointer (some ⟨p, 0, none⟩)] w fun e w' => PX Q p tp tc ts en j d w e w') (hj : j < 9223372036854775807) (n0 : tokIs ts j ⟨#[42]⟩ = false) (n1 : tokIs ts j ⟨#[47]⟩ = false) (n2 : tokIs ts j ⟨#[37]⟩ = false) (w : World) (h : PS w p tp tc ts en i d) :
    Calls Tryz.prog 134 #[.pointer (some ⟨p, 0, none⟩)] w fun e w' => PX Q p tp tc ts en j d w e w' := by
  obtain ⟨W, hW⟩ : ∃ W, W = w.alloc (.cells zero10 29) := ⟨_, rfl⟩
  have hps := px_ps h
  rw [← hW] at hps
  obtain ⟨A, hA⟩ : ∃ A, A = w.heap.size := ⟨_, rfl⟩
  have HC := Lib.hid (hin W hps); have H0 := Lib.hid h; have HW := Lib.hid hW; have HA := Lib.hid hA
  have HT0 := Lib.hid (fun (W : World) (h : PS W p tp tc ts en j d) => take_not ⟨#[42]⟩ hj n0 W h)
  have HT1 := Lib.hid (fun (W : World) (h : PS W p tp tc ts en j d) => take_not ⟨#[47]⟩ hj n1 W h)
  have HT2 := Lib.hid (fun (W : World) (h : PS W p tp tc ts en j d) => take_not ⟨#[37]⟩ hj n2 W h)
  have hsf := run_store_flt
  clear h hW hA hps hin n0 n1 n2
  go_enter Tryz.func134, Tryz.ntmps134
  go_upto_region 1 with fail
  unfold zero10 at HW
  rw [← HW.out, ← HA.out]
  go_wp2_with fail
  refine HC.out.mono ?_
  rintro e w1 ⟨x, rfl, hq, hxi, hxs, hps1, ho1⟩
  obtain ⟨p8, q8, e8⟩ := hxi.nslice
  obtain ⟨p9, q9, e9⟩ := hxi.xslice
  obtain ⟨p6, q6, e6⟩ := hxi.val.nslice
  obtain ⟨p7, q7, e7⟩ := hxi.val.xslice
  unfold Exp.agg
  rw [e6, e7, e8, e9]
  have hm := mid_start H0.out hxi (by rw [← HW.out]; exact hxs) hps1 (by rw [← HW.out]; exact ho1) e6 e7 e8 e9
  obtain ⟨W1, hW1⟩ : ∃ W1, W1 = w1.alloc (.cells #[.int .i64 x.k, .string x.s, .int .i64 x.v.k, .int .i64 x.v.n, .float .f64 x.v.f, .string x.v.s, .slice p6 x.v.ns.length q6, .slice p7 x.v.xs.length q7, .slice p8 x.ns.length q8, .slice p9 x.xs.length q9] 29) := ⟨_, rfl⟩
  obtain ⟨B, hB⟩ : ∃ B, B = w1.heap.size := ⟨_, rfl⟩
  rw [← hW1, ← HA.out, ← hB] at hm
  have HM := Lib.hid hm; have HQ := Lib.hid hq; have E6 := Lib.hid e6; have E7 := Lib.hid e7; have E8 := Lib.hid e8; have E9 := Lib.hid e9
  have HW1 := Lib.hid hW1; have HB := Lib.hid hB
  clear hm hq hxi hxs hps1 ho1 hW1 hB e6 e7 e8 e9
  go_upto_region 2 with fail
  rw [← HW1.out, ← HB.out]
  go_loopw [] (fun wr => wr = W1) (fun _ => 0)
  case atStart => rfl
  case round =>
    subst hrel
    go_wp2_with fail
    refine (HT0.out _ HM.out.ps).mono ?_
    rintro e wt0 ⟨rfl, hpt, hot⟩
    have HM0_ := Lib.hid (HM.out.step hpt hot)
    clear hpt hot
    go_wp2_with fail
    refine (HT1.out _ HM0_.out.ps).mono ?_
    rintro e wt1 ⟨rfl, hpt, hot⟩
    have HM1_ := Lib.hid (HM0_.out.step hpt hot)
    clear hpt hot
    go_wp2_with fail
    refine (HT2.out _ HM1_.out.ps).mono ?_
    rintro e W9 ⟨rfl, hpt, hot⟩
    have HM9 := Lib.hid (HM1_.out.step hpt hot)
    clear hpt hot
    have hbB := HM9.out.bB; have hbA := HM9.out.bA
    unfold Exp.cells at hbB
    rw [E6.out, E7.out, E8.out, E9.out] at hbB
    have c0 := hbB.cell 0; have c1 := hbB.cell 1; have c2 := hbB.cell 2; have c3 := hbB.cell 3; have c4 := hbB.cell 4; have c5 := hbB.cell 5; have c6 := hbB.cell 6; have c7 := hbB.cell 7; have c8 := hbB.cell 8; have c9 := hbB.cell 9
    have r0 := hbA.cell 0; have r1 := hbA.cell 1; have r2 := hbA.cell 2; have r3 := hbA.cell 3; have r4 := hbA.cell 4; have r5 := hbA.cell 5; have r6 := hbA.cell 6; have r7 := hbA.cell 7; have r8 := hbA.cell 8; have r9 := hbA.cell 9
    have s0 := hbA.frozen 0; have s1 := hbA.frozen 1; have s2 := hbA.frozen 2; have s3 := hbA.frozen 3; have s4 := hbA.frozen 4; have s5 := hbA.frozen 5; have s6 := hbA.frozen 6; have s7 := hbA.frozen 7; have s8 := hbA.frozen 8; have s9 := hbA.frozen 9
    simp at c0 c1 c2 c3 c4 c5 c6 c7 c8 c9 r0 r1 r2 r3 r4 r5 r6 r7 r8 r9
    have hAB := HM9.out.hAB
    obtain ⟨WF, hWF⟩ : ∃ WF, WF = ((((((((((W9.setCell ⟨A, 0, none⟩ (.int .i64 x.k)).setCell ⟨A, 1, none⟩ (.string x.s)).setCell ⟨A, 2, none⟩ (.int .i64 x.v.k)).setCell ⟨A, 3, none⟩ (.int .i64 x.v.n)).setCell ⟨A, 4, none⟩ (.float .f64 x.v.f)).setCell ⟨A, 5, none⟩ (.string x.v.s)).setCell ⟨A, 6, none⟩ (.slice p6 x.v.ns.length q6)).setCell ⟨A, 7, none⟩ (.slice p7 x.v.xs.length q7)).setCell ⟨A, 8, none⟩ (.slice p8 x.ns.length q8)).setCell ⟨A, 9, none⟩ (.slice p9 x.xs.length q9)) := ⟨_, rfl⟩
    obtain ⟨hbF, hPX⟩ := mid_end HM9.out HQ.out E6.out E7.out E8.out E9.out hWF
    have HBF := Lib.hid hbF; have HPX := Lib.hid hPX; have HWF := Lib.hid hWF
    clear hbF hPX hWF hbB hbA
    go_wp2_with fail
    rw [← HWF.out]
    have f0 := HBF.out.cell 0; have f1 := HBF.out.cell 1; have f2 := HBF.out.cell 2; have f3 := HBF.out.cell 3; have f4 := HBF.out.cell 4; have f5 := HBF.out.cell 5; have f6 := HBF.out.cell 6; have f7 := HBF.out.cell 7; have f8 := HBF.out.cell 8; have f9 := HBF.out.cell 9
    simp at f0 f1 f2 f3 f4 f5 f6 f7 f8 f9
    refine bodyPost_ret (v := .agg #[.int .i64 x.k, .string x.s, .int .i64 x.v.k, .int .i64 x.v.n, .float .f64 x.v.f, .string x.v.s, .slice p6 x.v.ns.length q6, .slice p7 x.v.xs.length q7, .slice p8 x.ns.length q8, .slice p9 x.xs.length q9]) (by simp [results, Tryz.results134, go_sem, f0, f1, f2, f3, f4, f5, f6, f7, f8, f9]) rfl ?_
    exact HPX.out

set_option maxHeartbeats 8000000 in
set_option maxRecDepth 100000 in
theorem post_pass (hin : ∀ w, PS w p tp tc ts en i d → Calls Tryz.prog 138 #[.pointer (some ⟨p, 0, none⟩)] w fun e w' => PX Q p tp tc ts en j d w e w') (hj : j < 9223372036854775807) (n0 : tokIs ts j ⟨#[46]⟩ = false) (n1 : tokIs ts j ⟨#[91]⟩ = false) (w : World) (h : PS w p tp tc ts en i d) :
    Calls Tryz.prog 137 #[.pointer (some ⟨p, 0, none⟩)] w fun e w' => PX Q p tp tc ts en j d w e w' := by
  obtain ⟨W, hW⟩ : ∃ W, W = w.alloc (.cells zero10 29) := ⟨_, rfl⟩
  have hps := px_ps h
  rw [← hW] at hps
  obtain ⟨A, hA⟩ : ∃ A, A = w.heap.size := ⟨_, rfl⟩
  have HC := Lib.hid (hin W hps); have H0 := Lib.hid h; have HW := Lib.hid hW; have HA := Lib.hid hA
  have HT0 := Lib.hid (fun (W : World) (h : PS W p tp tc ts en j d) => take_not ⟨#[46]⟩ hj n0 W h)
  have HT1 := Lib.hid (fun (W : World) (h : PS W p tp tc ts en j d) => take_not ⟨#[91]⟩ hj n1 W h)
  have hsf := run_store_flt
  clear h hW hA hps hin n0 n1
  go_enter Tryz.func137, Tryz.ntmps137
  go_upto_region 1 with fail
  unfold zero10 at HW
  rw [← HW.out, ← HA.out]
  go_wp2_with fail
  refine HC.out.mono ?_
  rintro e w1 ⟨x, rfl, hq, hxi, hxs, hps1, ho1⟩
  obtain ⟨p8, q8, e8⟩ := hxi.nslice
  obtain ⟨p9, q9, e9⟩ := hxi.xslice
  obtain ⟨p6, q6, e6⟩ := hxi.val.nslice
  obtain ⟨p7, q7, e7⟩ := hxi.val.xslice
  unfold Exp.agg
  rw [e6, e7, e8, e9]
  have hm := mid_start H0.out hxi (by rw [← HW.out]; exact hxs) hps1 (by rw [← HW.out]; exact ho1) e6 e7 e8 e9
  obtain ⟨W1, hW1⟩ : ∃ W1, W1 = w1.alloc (.cells #[.int .i64 x.k, .string x.s, .int .i64 x.v.k, .int .i64 x.v.n, .float .f64 x.v.f, .string x.v.s, .slice p6 x.v.ns.length q6, .slice p7 x.v.xs.length q7, .slice p8 x.ns.length q8, .slice p9 x.xs.length q9] 29) := ⟨_, rfl⟩
  obtain ⟨B, hB⟩ : ∃ B, B = w1.heap.size := ⟨_, rfl⟩
  rw [← hW1, ← HA.out, ← hB] at hm
  have HM := Lib.hid hm; have HQ := Lib.hid hq; have E6 := Lib.hid e6; have E7 := Lib.hid e7; have E8 := Lib.hid e8; have E9 := Lib.hid e9
  have HW1 := Lib.hid hW1; have HB := Lib.hid hB
  clear hm hq hxi hxs hps1 ho1 hW1 hB e6 e7 e8 e9
  go_upto_region 2 with fail
  rw [← HW1.out, ← HB.out]
  go_loopw [] (fun wr => wr = W1) (fun _ => 0)
  case atStart => rfl
  case round =>
    subst hrel
    go_wp2_with fail
    refine (HT0.out _ HM.out.ps).mono ?_
    rintro e wt0 ⟨rfl, hpt, hot⟩
    have HM0_ := Lib.hid (HM.out.step hpt hot)
    clear hpt hot
    go_wp2_with fail
    refine (HT1.out _ HM0_.out.ps).mono ?_
    rintro e W9 ⟨rfl, hpt, hot⟩
    have HM9 := Lib.hid (HM0_.out.step hpt hot)
    clear hpt hot
    have hbB := HM9.out.bB; have hbA := HM9.out.bA
    unfold Exp.cells at hbB
    rw [E6.out, E7.out, E8.out, E9.out] at hbB
    have c0 := hbB.cell 0; have c1 := hbB.cell 1; have c2 := hbB.cell 2; have c3 := hbB.cell 3; have c4 := hbB.cell 4; have c5 := hbB.cell 5; have c6 := hbB.cell 6; have c7 := hbB.cell 7; have c8 := hbB.cell 8; have c9 := hbB.cell 9
    have r0 := hbA.cell 0; have r1 := hbA.cell 1; have r2 := hbA.cell 2; have r3 := hbA.cell 3; have r4 := hbA.cell 4; have r5 := hbA.cell 5; have r6 := hbA.cell 6; have r7 := hbA.cell 7; have r8 := hbA.cell 8; have r9 := hbA.cell 9
    have s0 := hbA.frozen 0; have s1 := hbA.frozen 1; have s2 := hbA.frozen 2; have s3 := hbA.frozen 3; have s4 := hbA.frozen 4; have s5 := hbA.frozen 5; have s6 := hbA.frozen 6; have s7 := hbA.frozen 7; have s8 := hbA.frozen 8; have s9 := hbA.frozen 9
    simp at c0 c1 c2 c3 c4 c5 c6 c7 c8 c9 r0 r1 r2 r3 r4 r5 r6 r7 r8 r9
    have hAB := HM9.out.hAB
    obtain ⟨WF, hWF⟩ : ∃ WF, WF = ((((((((((W9.setCell ⟨A, 0, none⟩ (.int .i64 x.k)).setCell ⟨A, 1, none⟩ (.string x.s)).setCell ⟨A, 2, none⟩ (.int .i64 x.v.k)).setCell ⟨A, 3, none⟩ (.int .i64 x.v.n)).setCell ⟨A, 4, none⟩ (.float .f64 x.v.f)).setCell ⟨A, 5, none⟩ (.string x.v.s)).setCell ⟨A, 6, none⟩ (.slice p6 x.v.ns.length q6)).setCell ⟨A, 7, none⟩ (.slice p7 x.v.xs.length q7)).setCell ⟨A, 8, none⟩ (.slice p8 x.ns.length q8)).setCell ⟨A, 9, none⟩ (.slice p9 x.xs.length q9)) := ⟨_, rfl⟩
    obtain ⟨hbF, hPX⟩ := mid_end HM9.out HQ.out E6.out E7.out E8.out E9.out hWF
    have HBF := Lib.hid hbF; have HPX := Lib.hid hPX; have HWF := Lib.hid hWF
    clear hbF hPX hWF hbB hbA
    go_wp2_with fail
    rw [← HWF.out]
    have f0 := HBF.out.cell 0; have f1 := HBF.out.cell 1; have f2 := HBF.out.cell 2; have f3 := HBF.out.cell 3; have f4 := HBF.out.cell 4; have f5 := HBF.out.cell 5; have f6 := HBF.out.cell 6; have f7 := HBF.out.cell 7; have f8 := HBF.out.cell 8; have f9 := HBF.out.cell 9
    simp at f0 f1 f2 f3 f4 f5 f6 f7 f8 f9
    refine bodyPost_ret (v := .agg #[.int .i64 x.k, .string x.s, .int .i64 x.v.k, .int .i64 x.v.n, .float .f64 x.v.f, .string x.v.s, .slice p6 x.v.ns.length q6, .slice p7 x.v.xs.length q7, .slice p8 x.ns.length q8, .slice p9 x.xs.length q9]) (by simp [results, Tryz.results137, go_sem, f0, f1, f2, f3, f4, f5, f6, f7, f8, f9]) rfl ?_
    exact HPX.out
end
end Go.Proofs.YtjpdbhhjlnmacaaGreat
