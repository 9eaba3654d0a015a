/- The document's parser: levels that count how deep they are (printed by wip/gen_par7.py). -/
import Derived.Test.YtjpdbhhjlnmacaaGreatTpM43
namespace Go.Proofs.YtjpdbhhjlnmacaaGreat
set_option linter.unusedVariables false
open Go.RowKit

section
variable {p : Nat} {tp : Option Addr} {tc : Nat} {ts : List Tok} {en i j l d : Nat} {Q P : Exp → Prop}
theorem xzero_in (w : World) : Exp.zero.In w := by
  rw [Exp.in_iff]
  refine ⟨⟨by unfold i64r; decide, by unfold strok; decide, by decide, by decide, fun s h => by simp [Exp.ns] at h⟩, ?_, rfl, rfl, fun x hx => by simp [Exp.xs] at hx⟩
  rw [show Exp.zero.v = Val.zero from rfl, Val.in_iff]
  exact ⟨⟨by unfold i64r; decide, by unfold i64r; decide, by decide, by unfold strok; decide, by decide, by decide, fun s h => by simp [Val.ns] at h⟩, rfl, rfl, fun x hx => by simp [Val.xs] at hx⟩
theorem xzero_sep (S : Nat → Prop) : Exp.zero.Sep S := by
  rw [Exp.sep_iff]
  refine ⟨?_, trivial, trivial, fun x hx => by simp [Exp.xs] at hx⟩
  rw [show Exp.zero.v = Val.zero from rfl, Val.sep_iff]
  exact ⟨trivial, trivial, fun x hx => by simp [Val.xs] at hx⟩
theorem PS.shallow {w : World} (h : PS w p tp tc ts en i (d + 1)) : PS (w.setCell ⟨p, 5, none⟩ (.int .i64 (d : Int))) p tp tc ts en i d ∧ Only w (w.setCell ⟨p, 5, none⟩ (.int .i64 (d : Int))) p :=
  ⟨h.keep (h.blk.set_ 5 (.int .i64 (d : Int))) ((Only.refl w p).set_ (p := ⟨p, 5, none⟩) (.inl rfl) _), (Only.refl w p).set_ (p := ⟨p, 5, none⟩) (.inl rfl) _⟩

set_option maxHeartbeats 8000000 in
set_option maxRecDepth 100000 in
theorem unary_pass (hin : ∀ w, PS w p tp tc ts en i (d + 1) → Calls Tryz.prog 137 #[.pointer (some ⟨p, 0, none⟩)] w fun e w' => PX Q p tp tc ts en j (d + 1) w e w') (hi : i < 9223372036854775807) (hd : d < 100) (n0 : tokIs ts i ⟨#[45]⟩ = false) (n1 : tokIs ts i ⟨#[33]⟩ = false) (w : World) (h : PS w p tp tc ts en i d) :
    Calls Tryz.prog 135 #[.pointer (some ⟨p, 0, none⟩)] w fun e w' => PX Q p tp tc ts en j d w e w' := by
  obtain ⟨W, hW⟩ : ∃ W, W = w.alloc (.cells zero10 29) := ⟨_, rfl⟩
  have hps := px_ps h
  rw [← hW] at hps
  obtain ⟨A, hA⟩ : ∃ A, A = w.heap.size := ⟨_, rfl⟩
  have HD := Lib.hid (down_at hps hd)
  have HC := Lib.hid hin; have H0 := Lib.hid h; have HW := Lib.hid hW; have HA := Lib.hid hA
  have HT0 := Lib.hid (fun (W : World) (h : PS W p tp tc ts en i (d + 1)) => take_not ⟨#[45]⟩ hi n0 W h)
  have HT1 := Lib.hid (fun (W : World) (h : PS W p tp tc ts en i (d + 1)) => take_not ⟨#[33]⟩ hi n1 W h)
  have hsf := run_store_flt
  clear h hW hA hps hin n0 n1
  go_enter Tryz.func135, Tryz.ntmps135
  go_upto_region 1 with fail
  unfold zero10 at HW
  rw [← HW.out, ← HA.out]
  go_wp2_with fail
  refine HD.out.mono ?_
  rintro e w1 ⟨rfl, -, hps1, ho1⟩
  have hm := mid_start (x := Exp.zero) H0.out (xzero_in w1) (xzero_sep _) hps1 (by have := HW.out; unfold zero10; rw [← this]; exact ho1) rfl rfl rfl rfl
  obtain ⟨W1, hW1⟩ : ∃ W1, W1 = w1.alloc (.cells zero10 29) := ⟨_, rfl⟩
  obtain ⟨B, hB⟩ : ∃ B, B = w1.heap.size := ⟨_, rfl⟩
  have hm' : Mid w W1 A B p tp tc ts en i (d + 1) Exp.zero := by rw [hW1, hB, HA.out]; exact hm
  have HM := Lib.hid hm'
  have HW1 := Lib.hid hW1; have HB := Lib.hid hB
  clear hm hm' hps1 ho1 hW1 hB
  go_upto_region 3 with fail
  unfold zero10 at HW1
  rw [← HW1.out, ← HB.out]
  go_wp2_with fail
  refine (HT0.out _ HM.out.ps).mono ?_
  rintro e wt0 ⟨rfl, hpt, hot⟩
  have HM0_ := Lib.hid (HM.out.step hpt hot)
  clear hpt hot
  go_wp2_with fail
  refine (HT1.out _ HM0_.out.ps).mono ?_
  rintro e wt1 ⟨rfl, hpt, hot⟩
  have HM1_ := Lib.hid (HM0_.out.step hpt hot)
  clear hpt hot
  go_wp2_with fail
  refine (HC.out _ HM1_.out.ps).mono ?_
  rintro e w4 ⟨x, rfl, hq, hxi, hxs, hps4, ho4⟩
  obtain ⟨p8, q8, e8⟩ := hxi.nslice
  obtain ⟨p9, q9, e9⟩ := hxi.xslice
  obtain ⟨p6, q6, e6⟩ := hxi.val.nslice
  obtain ⟨p7, q7, e7⟩ := hxi.val.xslice
  unfold Exp.agg
  rw [e6, e7, e8, e9]
  obtain ⟨W8, hW8⟩ : ∃ W8, W8 = ((((((((((w4.setCell ⟨B, 0, none⟩ (.int .i64 x.k)).setCell ⟨B, 1, none⟩ (.string x.s)).setCell ⟨B, 2, none⟩ (.int .i64 x.v.k)).setCell ⟨B, 3, none⟩ (.int .i64 x.v.n)).setCell ⟨B, 4, none⟩ (.float .f64 x.v.f)).setCell ⟨B, 5, none⟩ (.string x.v.s)).setCell ⟨B, 6, none⟩ (.slice p6 x.v.ns.length q6)).setCell ⟨B, 7, none⟩ (.slice p7 x.v.xs.length q7)).setCell ⟨B, 8, none⟩ (.slice p8 x.ns.length q8)).setCell ⟨B, 9, none⟩ (.slice p9 x.xs.length q9)) := ⟨_, rfl⟩
  have HM8 := Lib.hid (mid_again (z := x) (w5 := w4) (WZ := W8) HM1_.out hps4 ho4 (Below.refl _ w4) hxi (hxs.mono (fun b hb => by have := HM1_.out.bB.lt; have := HM1_.out.hAB; omega)) e6 e7 e8 e9 hW8)
  have bB4 := HM1_.out.bB.grown ho4 (by have := HM1_.out.hp; have := HM1_.out.hAB; simp; omega)
  have r0 := bB4.cell 0; have r1 := bB4.cell 1; have r2 := bB4.cell 2; have r3 := bB4.cell 3; have r4 := bB4.cell 4; have r5 := bB4.cell 5; have r6 := bB4.cell 6; have r7 := bB4.cell 7; have r8 := bB4.cell 8; have r9 := bB4.cell 9
  have s0 := bB4.frozen 0; have s1 := bB4.frozen 1; have s2 := bB4.frozen 2; have s3 := bB4.frozen 3; have s4 := bB4.frozen 4; have s5 := bB4.frozen 5; have s6 := bB4.frozen 6; have s7 := bB4.frozen 7; have s8 := bB4.frozen 8; have s9 := bB4.frozen 9
  simp only [Exp.cells, Exp.zero, List.getElem?_toArray, List.getElem?_cons_zero, List.getElem?_cons_succ] at r0 r1 r2 r3 r4 r5 r6 r7 r8 r9
  have HQ := Lib.hid hq; have E6 := Lib.hid e6; have E7 := Lib.hid e7; have E8 := Lib.hid e8; have E9 := Lib.hid e9; have HW8 := Lib.hid hW8
  clear hq hxi hxs hps4 ho4 e6 e7 e8 e9 hW8 bB4
  go_upto_region 8 with fail
  rw [← HW8.out]
  clear r0 r1 r2 r3 r4 r5 r6 r7 r8 r9 s0 s1 s2 s3 s4 s5 s6 s7 s8 s9
  have c5' := HM8.out.ps.blk.cell 5
  simp at c5'
  have d5' := HM8.out.ps.blk.frozen 5
  have hpB := HM8.out.hp
  have hABx := HM8.out.hAB
  obtain ⟨W9, hW9⟩ : ∃ W9, W9 = W8.setCell ⟨p, 5, none⟩ (.int .i64 (d : Int)) := ⟨_, rfl⟩
  have HM9 := Lib.hid (by have := HM8.out.step (PS.shallow HM8.out.ps).1 (PS.shallow HM8.out.ps).2; rw [← hW9] at this; exact this)
  have HW9 := Lib.hid hW9
  clear hW9
  
  go_upto_region 9 with fail
  rw [← HW9.out]
  have hbB := HM9.out.bB; have hbA := HM9.out.bA
  unfold Exp.cells at hbB
  rw [E6.out, E7.out, E8.out, E9.out] at hbB
  have c0 := hbB.cell 0; have c1 := hbB.cell 1; have c2 := hbB.cell 2; have c3 := hbB.cell 3; have c4 := hbB.cell 4; have c5 := hbB.cell 5; have c6 := hbB.cell 6; have c7 := hbB.cell 7; have c8 := hbB.cell 8; have c9 := hbB.cell 9
  have r0 := hbA.cell 0; have r1 := hbA.cell 1; have r2 := hbA.cell 2; have r3 := hbA.cell 3; have r4 := hbA.cell 4; have r5 := hbA.cell 5; have r6 := hbA.cell 6; have r7 := hbA.cell 7; have r8 := hbA.cell 8; have r9 := hbA.cell 9
  have s0 := hbA.frozen 0; have s1 := hbA.frozen 1; have s2 := hbA.frozen 2; have s3 := hbA.frozen 3; have s4 := hbA.frozen 4; have s5 := hbA.frozen 5; have s6 := hbA.frozen 6; have s7 := hbA.frozen 7; have s8 := hbA.frozen 8; have s9 := hbA.frozen 9
  simp at c0 c1 c2 c3 c4 c5 c6 c7 c8 c9 r0 r1 r2 r3 r4 r5 r6 r7 r8 r9
  have hAB := HM9.out.hAB
  obtain ⟨WF, hWF⟩ : ∃ WF, WF = ((((((((((W9.setCell ⟨A, 0, none⟩ (.int .i64 x.k)).setCell ⟨A, 1, none⟩ (.string x.s)).setCell ⟨A, 2, none⟩ (.int .i64 x.v.k)).setCell ⟨A, 3, none⟩ (.int .i64 x.v.n)).setCell ⟨A, 4, none⟩ (.float .f64 x.v.f)).setCell ⟨A, 5, none⟩ (.string x.v.s)).setCell ⟨A, 6, none⟩ (.slice p6 x.v.ns.length q6)).setCell ⟨A, 7, none⟩ (.slice p7 x.v.xs.length q7)).setCell ⟨A, 8, none⟩ (.slice p8 x.ns.length q8)).setCell ⟨A, 9, none⟩ (.slice p9 x.xs.length q9)) := ⟨_, rfl⟩
  obtain ⟨hbF, hPX⟩ := mid_end HM9.out HQ.out E6.out E7.out E8.out E9.out hWF
  have HBF := Lib.hid hbF; have HPX := Lib.hid hPX; have HWF := Lib.hid hWF
  clear hbF hPX hWF hbB hbA
  go_wp2_with fail
  rw [← HWF.out]
  have f0 := HBF.out.cell 0; have f1 := HBF.out.cell 1; have f2 := HBF.out.cell 2; have f3 := HBF.out.cell 3; have f4 := HBF.out.cell 4; have f5 := HBF.out.cell 5; have f6 := HBF.out.cell 6; have f7 := HBF.out.cell 7; have f8 := HBF.out.cell 8; have f9 := HBF.out.cell 9
  simp at f0 f1 f2 f3 f4 f5 f6 f7 f8 f9
  refine bodyPost_ret (v := .agg #[.int .i64 x.k, .string x.s, .int .i64 x.v.k, .int .i64 x.v.n, .float .f64 x.v.f, .string x.v.s, .slice p6 x.v.ns.length q6, .slice p7 x.v.xs.length q7, .slice p8 x.ns.length q8, .slice p9 x.xs.length q9]) (by simp [results, Tryz.results135, go_sem, f0, f1, f2, f3, f4, f5, f6, f7, f8, f9]) rfl ?_
  exact HPX.out

set_option maxHeartbeats 8000000 in
set_option maxRecDepth 100000 in
theorem expr_pass (hin : ∀ w, PS w p tp tc ts en i (d + 1) → Calls Tryz.prog 92 #[.pointer (some ⟨p, 0, none⟩)] w fun e w' => PX Q p tp tc ts en j (d + 1) w e w') (hj : j < 9223372036854775807) (hd : d < 100) (n0 : tokIs ts j ⟨#[63]⟩ = false) (w : World) (h : PS w p tp tc ts en i d) :
    Calls Tryz.prog 64 #[.pointer (some ⟨p, 0, none⟩)] w fun e w' => PX Q p tp tc ts en j d w e w' := by
  obtain ⟨W, hW⟩ : ∃ W, W = w.alloc (.cells zero10 29) := ⟨_, rfl⟩
  have hps := px_ps h
  rw [← hW] at hps
  obtain ⟨A, hA⟩ : ∃ A, A = w.heap.size := ⟨_, rfl⟩
  have HD := Lib.hid (down_at hps hd)
  have HC := Lib.hid hin; have H0 := Lib.hid h; have HW := Lib.hid hW; have HA := Lib.hid hA
  have HT0 := Lib.hid (fun (W : World) (h : PS W p tp tc ts en j (d + 1)) => take_not ⟨#[63]⟩ hj n0 W h)
  have hsf := run_store_flt
  clear h hW hA hps hin n0
  go_enter Tryz.func64, Tryz.ntmps64
  go_upto_region 1 with fail
  unfold zero10 at HW
  rw [← HW.out, ← HA.out]
  go_wp2_with fail
  refine HD.out.mono ?_
  rintro e wd ⟨rfl, -, hpsd, hod⟩
  have HOD := Lib.hid hod; have HPSD := Lib.hid hpsd
  clear hod hpsd
  go_wp2_with fail
  refine (HC.out _ HPSD.out).mono ?_
  rintro e w1 ⟨x, rfl, hq, hxi, hxs0, hps1, ho10⟩
  have ho1 := HOD.out.trans ho10
  have hxs : x.Sep (fun b => W.heap.size ≤ b) := hxs0.mono (fun b hb => Nat.le_trans HOD.out.size hb)
  clear hxs0 ho10
  obtain ⟨p8, q8, e8⟩ := hxi.nslice
  obtain ⟨p9, q9, e9⟩ := hxi.xslice
  obtain ⟨p6, q6, e6⟩ := hxi.val.nslice
  obtain ⟨p7, q7, e7⟩ := hxi.val.xslice
  unfold Exp.agg
  rw [e6, e7, e8, e9]
  have hm := mid_start H0.out hxi (by rw [← HW.out]; exact hxs) hps1 (by rw [← HW.out]; exact ho1) e6 e7 e8 e9
  obtain ⟨W1, hW1⟩ : ∃ W1, W1 = w1.alloc (.cells #[.int .i64 x.k, .string x.s, .int .i64 x.v.k, .int .i64 x.v.n, .float .f64 x.v.f, .string x.v.s, .slice p6 x.v.ns.length q6, .slice p7 x.v.xs.length q7, .slice p8 x.ns.length q8, .slice p9 x.xs.length q9] 29) := ⟨_, rfl⟩
  obtain ⟨B, hB⟩ : ∃ B, B = w1.heap.size := ⟨_, rfl⟩
  rw [← hW1, ← HA.out, ← hB] at hm
  have HM := Lib.hid hm; have HQ := Lib.hid hq; have E6 := Lib.hid e6; have E7 := Lib.hid e7; have E8 := Lib.hid e8; have E9 := Lib.hid e9
  have HW1 := Lib.hid hW1; have HB := Lib.hid hB
  clear hm hq hxi hxs hps1 ho1 hW1 hB e6 e7 e8 e9
  go_upto_region 3 with fail
  rw [← HW1.out, ← HB.out]
  go_wp2_with fail
  refine (HT0.out _ HM.out.ps).mono ?_
  rintro e W8 ⟨rfl, hpt, hot⟩
  have HM8 := Lib.hid (HM.out.step hpt hot)
  clear hpt hot
  have c5' := HM8.out.ps.blk.cell 5
  simp at c5'
  have d5' := HM8.out.ps.blk.frozen 5
  have hpB := HM8.out.hp
  have hABx := HM8.out.hAB
  obtain ⟨W9, hW9⟩ : ∃ W9, W9 = W8.setCell ⟨p, 5, none⟩ (.int .i64 (d : Int)) := ⟨_, rfl⟩
  have HM9 := Lib.hid (by have := HM8.out.step (PS.shallow HM8.out.ps).1 (PS.shallow HM8.out.ps).2; rw [← hW9] at this; exact this)
  have HW9 := Lib.hid hW9
  clear hW9
  
  go_upto_region 9 with fail
  rw [← HW9.out]
  have hbB := HM9.out.bB; have hbA := HM9.out.bA
  unfold Exp.cells at hbB
  rw [E6.out, E7.out, E8.out, E9.out] at hbB
  have c0 := hbB.cell 0; have c1 := hbB.cell 1; have c2 := hbB.cell 2; have c3 := hbB.cell 3; have c4 := hbB.cell 4; have c5 := hbB.cell 5; have c6 := hbB.cell 6; have c7 := hbB.cell 7; have c8 := hbB.cell 8; have c9 := hbB.cell 9
  have r0 := hbA.cell 0; have r1 := hbA.cell 1; have r2 := hbA.cell 2; have r3 := hbA.cell 3; have r4 := hbA.cell 4; have r5 := hbA.cell 5; have r6 := hbA.cell 6; have r7 := hbA.cell 7; have r8 := hbA.cell 8; have r9 := hbA.cell 9
  have s0 := hbA.frozen 0; have s1 := hbA.frozen 1; have s2 := hbA.frozen 2; have s3 := hbA.frozen 3; have s4 := hbA.frozen 4; have s5 := hbA.frozen 5; have s6 := hbA.frozen 6; have s7 := hbA.frozen 7; have s8 := hbA.frozen 8; have s9 := hbA.frozen 9
  simp at c0 c1 c2 c3 c4 c5 c6 c7 c8 c9 r0 r1 r2 r3 r4 r5 r6 r7 r8 r9
  have hAB := HM9.out.hAB
  obtain ⟨WF, hWF⟩ : ∃ WF, WF = ((((((((((W9.setCell ⟨A, 0, none⟩ (.int .i64 x.k)).setCell ⟨A, 1, none⟩ (.string x.s)).setCell ⟨A, 2, none⟩ (.int .i64 x.v.k)).setCell ⟨A, 3, none⟩ (.int .i64 x.v.n)).setCell ⟨A, 4, none⟩ (.float .f64 x.v.f)).setCell ⟨A, 5, none⟩ (.string x.v.s)).setCell ⟨A, 6, none⟩ (.slice p6 x.v.ns.length q6)).setCell ⟨A, 7, none⟩ (.slice p7 x.v.xs.length q7)).setCell ⟨A, 8, none⟩ (.slice p8 x.ns.length q8)).setCell ⟨A, 9, none⟩ (.slice p9 x.xs.length q9)) := ⟨_, rfl⟩
  obtain ⟨hbF, hPX⟩ := mid_end HM9.out HQ.out E6.out E7.out E8.out E9.out hWF
  have HBF := Lib.hid hbF; have HPX := Lib.hid hPX; have HWF := Lib.hid hWF
  clear hbF hPX hWF hbB hbA
  go_wp2_with fail
  rw [← HWF.out]
  have f0 := HBF.out.cell 0; have f1 := HBF.out.cell 1; have f2 := HBF.out.cell 2; have f3 := HBF.out.cell 3; have f4 := HBF.out.cell 4; have f5 := HBF.out.cell 5; have f6 := HBF.out.cell 6; have f7 := HBF.out.cell 7; have f8 := HBF.out.cell 8; have f9 := HBF.out.cell 9
  simp at f0 f1 f2 f3 f4 f5 f6 f7 f8 f9
  refine bodyPost_ret (v := .agg #[.int .i64 x.k, .string x.s, .int .i64 x.v.k, .int .i64 x.v.n, .float .f64 x.v.f, .string x.v.s, .slice p6 x.v.ns.length q6, .slice p7 x.v.xs.length q7, .slice p8 x.ns.length q8, .slice p9 x.xs.length q9]) (by simp [results, Tryz.results64, go_sem, f0, f1, f2, f3, f4, f5, f6, f7, f8, f9]) rfl ?_
  exact HPX.out
end
end Go.Proofs.YtjpdbhhjlnmacaaGreat
