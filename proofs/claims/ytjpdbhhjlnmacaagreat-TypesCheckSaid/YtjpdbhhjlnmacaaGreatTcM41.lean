/- The document's parser: a comparison (printed by wip/gen_par5.py). -/
import Derived.Test.YtjpdbhhjlnmacaaGreatTcM40
namespace Go.Proofs.YtjpdbhhjlnmacaaGreat
set_option linter.unusedVariables false
open Go.RowKit

theorem two_sep {k : Int} {a b : Exp} {g : Nat} {S : Nat → Prop} (hg : S g) (ha : a.Sep S) (hb : b.Sep S) : (Exp.two k (.at_ g 0 2) a b).Sep S := by
  rw [Exp.sep_iff]
  refine ⟨?_, trivial, .inr hg, fun x hx => ?_⟩
  · rw [show (Exp.two k (.at_ g 0 2) a b).v = Val.zero from rfl, Val.sep_iff]
    exact ⟨trivial, trivial, fun x hx => by simp [Val.xs] at hx⟩
  · have : x = a ∨ x = b := by simpa [Exp.xs] using hx
    rcases this with rfl | rfl
    · exact ha
    · exact hb
section
variable {p : Nat} {tp : Option Addr} {tc : Nat} {ts : List Tok} {en i j l d : Nat} {Q P : Exp → Prop}
theorem two_lit (k : Int) (a b : Exp) (w : World) (hk : i64r k) (ha : a.In w) (hb : b.In w) :
    Calls Tryz.prog 112 #[.int .i64 k, a.agg, b.agg] w fun e w' => ∃ g, w.heap.size ≤ g ∧ e = .returned (.agg #[.int .i64 k, .string ⟨#[]⟩, .int .i64 0, .int .i64 0, .float .f64 0, .string ⟨#[]⟩, .slice none 0 0, .slice none 0 0, .slice none 0 0, .slice (some ⟨g, 0, none⟩) 2 2]) ∧ (Exp.two k (.at_ g 0 2) a b).In w' ∧ Below w.heap.size w w' := two_any k a b w hk ha hb
theorem px_two {w w4 w5 WF : World} {A B g : Nat} {k : Int} {x y : Exp} {R : Exp → Prop} (h : Mid w w4 A B p tp tc ts en l d x) (hyi : y.In w4) (hys : y.Sep (fun b => A + 1 ≤ b)) (hg : w4.heap.size ≤ g) (hb5 : Below w4.heap.size w4 w5) (hz : (Exp.two k (.at_ g 0 2) x y).In w5) (hR : R (Exp.two k (.at_ g 0 2) x y))
    (hWF : WF = ((((((((((w5.setCell ⟨A, 0, none⟩ (.int .i64 k)).setCell ⟨A, 1, none⟩ (.string ⟨#[]⟩)).setCell ⟨A, 2, none⟩ (.int .i64 0)).setCell ⟨A, 3, none⟩ (.int .i64 0)).setCell ⟨A, 4, none⟩ (.float .f64 0)).setCell ⟨A, 5, none⟩ (.string ⟨#[]⟩)).setCell ⟨A, 6, none⟩ (.slice none 0 0)).setCell ⟨A, 7, none⟩ (.slice none 0 0)).setCell ⟨A, 8, none⟩ (.slice none 0 0)).setCell ⟨A, 9, none⟩ (.slice (some ⟨g, 0, none⟩) 2 2))) : Blk WF A 29 #[.int .i64 k, .string ⟨#[]⟩, .int .i64 0, .int .i64 0, .float .f64 0, .string ⟨#[]⟩, .slice none 0 0, .slice none 0 0, .slice none 0 0, .slice (some ⟨g, 0, none⟩) 2 2] ∧ PX R p tp tc ts en l d w (.returned (.agg #[.int .i64 k, .string ⟨#[]⟩, .int .i64 0, .int .i64 0, .float .f64 0, .string ⟨#[]⟩, .slice none 0 0, .slice none 0 0, .slice none 0 0, .slice (some ⟨g, 0, none⟩) 2 2])) WF := by
  have hps5 := h.ps.below hb5
  have bA5 := h.bA.below hb5 h.bA.lt
  have ho5 : Only w w5 p := h.only.trans (Only.of_below hb5 p)
  have hp := h.hp; have hAB := h.hAB; have hA := h.hA
  have hA4 := h.bA.lt
  have hoF : Only w5 WF A := by
    rw [hWF]
    exact ((((((((((Only.refl w5 A).set_ (p := ⟨A, 0, none⟩) (.inl rfl) _).set_ (p := ⟨A, 1, none⟩) (.inl rfl) _).set_ (p := ⟨A, 2, none⟩) (.inl rfl) _).set_ (p := ⟨A, 3, none⟩) (.inl rfl) _).set_ (p := ⟨A, 4, none⟩) (.inl rfl) _).set_ (p := ⟨A, 5, none⟩) (.inl rfl) _).set_ (p := ⟨A, 6, none⟩) (.inl rfl) _).set_ (p := ⟨A, 7, none⟩) (.inl rfl) _).set_ (p := ⟨A, 8, none⟩) (.inl rfl) _).set_ (p := ⟨A, 9, none⟩) (.inl rfl) _
  have hb : Blk WF A 29 #[.int .i64 k, .string ⟨#[]⟩, .int .i64 0, .int .i64 0, .float .f64 0, .string ⟨#[]⟩, .slice none 0 0, .slice none 0 0, .slice none 0 0, .slice (some ⟨g, 0, none⟩) 2 2] := by rw [hWF]; exact blk10_set bA5 (.int .i64 k) (.string ⟨#[]⟩) (.int .i64 0) (.int .i64 0) (.float .f64 0) (.string ⟨#[]⟩) (.slice none 0 0) (.slice none 0 0) (.slice none 0 0) (.slice (some ⟨g, 0, none⟩) 2 2)
  have how : Only w WF p := by rw [hWF]; exact only10_set ho5 (by omega) (.int .i64 k) (.string ⟨#[]⟩) (.int .i64 0) (.int .i64 0) (.float .f64 0) (.string ⟨#[]⟩) (.slice none 0 0) (.slice none 0 0) (.slice none 0 0) (.slice (some ⟨g, 0, none⟩) 2 2)
  have hsep : (Exp.two k (.at_ g 0 2) x y).Sep (fun b => A + 1 ≤ b) := two_sep (by omega) (h.sep.mono (fun b hb => hb.1)) hys
  refine ⟨hb, _, rfl, hR, In.only hz hsep (fun b hb => by omega) hoF, hsep.mono (fun b hb => by omega), ?_, how⟩
  refine hps5.keep2 (hps5.blk.grown hoF (by simp; omega)) hoF.size (fun g hg hl => ?_)
  have hgA := h.toks g 0 none hg
  exact hoF.block g (by have := bA5.lt; omega) (by simp; omega)

set_option maxHeartbeats 8000000 in
set_option maxRecDepth 100000 in
theorem cmp_less (hin : ∀ w, PS w p tp tc ts en i d → Calls Tryz.prog 133 #[.pointer (some ⟨p, 0, none⟩)] w fun e w' => PX Q p tp tc ts en j d w e w') (hin2 : ∀ w, PS w p tp tc ts en (j + 1) d → Calls Tryz.prog 133 #[.pointer (some ⟨p, 0, none⟩)] w fun e w' => PX P p tp tc ts en l d w e w') (hj : j < 9223372036854775807)
    (n0 : tokIs ts j ⟨#[61, 61]⟩ = false) (n1 : tokIs ts j ⟨#[60, 61]⟩ = false) (n2 : tokIs ts j ⟨#[60]⟩ = true) (w : World) (h : PS w p tp tc ts en i d) :
    Calls Tryz.prog 125 #[.pointer (some ⟨p, 0, none⟩)] w fun e w' => PX (fun z => ∃ g a b, z = Exp.two 11 (.at_ g 0 2) a b ∧ Q a ∧ P b) p tp tc ts en l d w e w' := by
  obtain ⟨W, hW⟩ : ∃ W, W = w.alloc (.cells zero10 29) := ⟨_, rfl⟩
  have hps := px_ps h
  rw [← hW] at hps
  obtain ⟨A, hA⟩ : ∃ A, A = w.heap.size := ⟨_, rfl⟩
  have HC := Lib.hid (hin W hps); have HC2 := Lib.hid hin2; have H0 := Lib.hid h; have HW := Lib.hid hW; have HA := Lib.hid hA
  have HT0 := Lib.hid (fun (W : World) (h : PS W p tp tc ts en j d) => take_not ⟨#[61, 61]⟩ hj n0 W h)
  have HT1 := Lib.hid (fun (W : World) (h : PS W p tp tc ts en j d) => take_not ⟨#[60, 61]⟩ hj n1 W h)
  have HT2 := Lib.hid (fun (W : World) (h : PS W p tp tc ts en j d) => take_yes ⟨#[60]⟩ hj n2 W h)
  have hsf := run_store_flt
  clear h hW hA hps hin hin2 n0 n1 n2
  go_enter Tryz.func125, Tryz.ntmps125
  go_upto_region 1 with fail
  unfold zero10 at HW
  rw [← HW.out, ← HA.out]
  go_wp2_with fail
  refine HC.out.mono ?_
  rintro e w1 ⟨x, rfl, hq, hxi, hxs, hps1, ho1⟩
  obtain ⟨p8, q8, e8⟩ := hxi.nslice
  obtain ⟨p9, q9, e9⟩ := hxi.xslice
  obtain ⟨p6, q6, e6⟩ := hxi.val.nslice
  obtain ⟨p7, q7, e7⟩ := hxi.val.xslice
  unfold Exp.agg
  rw [e6, e7, e8, e9]
  have hm := mid_start H0.out hxi (by rw [← HW.out]; exact hxs) hps1 (by rw [← HW.out]; exact ho1) e6 e7 e8 e9
  obtain ⟨W1, hW1⟩ : ∃ W1, W1 = w1.alloc (.cells #[.int .i64 x.k, .string x.s, .int .i64 x.v.k, .int .i64 x.v.n, .float .f64 x.v.f, .string x.v.s, .slice p6 x.v.ns.length q6, .slice p7 x.v.xs.length q7, .slice p8 x.ns.length q8, .slice p9 x.xs.length q9] 29) := ⟨_, rfl⟩
  obtain ⟨B, hB⟩ : ∃ B, B = w1.heap.size := ⟨_, rfl⟩
  rw [← hW1, ← HA.out, ← hB] at hm
  have HM := Lib.hid hm; have HQ := Lib.hid hq; have E6 := Lib.hid e6; have E7 := Lib.hid e7; have E8 := Lib.hid e8; have E9 := Lib.hid e9
  have HW1 := Lib.hid hW1; have HB := Lib.hid hB
  clear hm hq hxi hxs hps1 ho1 hW1 hB e6 e7 e8 e9
  go_upto_region 2 with fail
  rw [← HW1.out, ← HB.out]
  go_wp2_with fail
  refine (HT0.out _ HM.out.ps).mono ?_
  rintro e wt0 ⟨rfl, hpt, hot⟩
  have HM0_ := Lib.hid (HM.out.step hpt hot)
  clear hpt hot
  go_wp2_with fail
  refine (HT1.out _ HM0_.out.ps).mono ?_
  rintro e wt1 ⟨rfl, hpt, hot⟩
  have HM1_ := Lib.hid (HM0_.out.step hpt hot)
  clear hpt hot
  go_wp2_with fail
  refine (HT2.out _ HM1_.out.ps).mono ?_
  rintro e W9 ⟨rfl, hpt, hot⟩
  have HM9 := Lib.hid (HM1_.out.step hpt hot)
  clear hpt hot
  have HSZ : Hid (∀ b, W9.drew.heap.size ≤ b → A + 1 ≤ b) := Lib.hid (fun b hb => by have := HM9.out.bA.lt; have h1 : W9.drew.heap.size = W9.heap.size := rfl; omega)
  have hbB := HM9.out.bB
  unfold Exp.cells at hbB
  rw [E6.out, E7.out, E8.out, E9.out] at hbB
  have c0 := hbB.cell 0; have c1 := hbB.cell 1; have c2 := hbB.cell 2; have c3 := hbB.cell 3; have c4 := hbB.cell 4; have c5 := hbB.cell 5; have c6 := hbB.cell 6; have c7 := hbB.cell 7; have c8 := hbB.cell 8; have c9 := hbB.cell 9
  simp at c0 c1 c2 c3 c4 c5 c6 c7 c8 c9
  clear hbB
  go_upto_region 7 with fail
  go_region_law (first
    | (go_simp; go_at_call 133; refine (HC2.out _ HM9.out.drew.ps).mono ?_; rintro e w4 ⟨y, rfl, hqy, hyi, hys, hps4, ho4⟩;
         obtain ⟨y8, ym8, f8⟩ := hyi.nslice; obtain ⟨y9, ym9, f9⟩ := hyi.xslice; obtain ⟨y6, ym6, f6⟩ := hyi.val.nslice; obtain ⟨y7, ym7, f7⟩ := hyi.val.xslice;
         unfold Exp.agg; rw [f6, f7, f8, f9];
         have HM4 := Lib.hid (HM9.out.drew.step hps4 ho4);
         have hb4 := HM4.out.bB; unfold Exp.cells at hb4; rw [E6.out, E7.out, E8.out, E9.out] at hb4;
         have k0 := hb4.cell 0; have k1 := hb4.cell 1; have k2 := hb4.cell 2; have k3 := hb4.cell 3; have k4 := hb4.cell 4; have k5 := hb4.cell 5; have k6 := hb4.cell 6; have k7 := hb4.cell 7; have k8 := hb4.cell 8; have k9 := hb4.cell 9;
         simp at k0 k1 k2 k3 k4 k5 k6 k7 k8 k9;
         have F6 := Lib.hid f6; have F7 := Lib.hid f7; have F8 := Lib.hid f8; have F9 := Lib.hid f9; have HQY := Lib.hid hqy; have HYI := Lib.hid hyi; have HYS := Lib.hid hys; have HPS4 := Lib.hid hps4; have HO4 := Lib.hid ho4;
         have h2 := two_lit 11 x y w4 (by unfold i64r; decide) HM4.out.hin hyi;
         unfold Exp.agg at h2; rw [E6.out, E7.out, E8.out, E9.out, f6, f7, f8, f9] at h2;
         have H2 := Lib.hid h2;
         clear h2 hb4 f6 f7 f8 f9 hqy hyi hys hps4 ho4)
    | (go_simp; go_at_call 112; refine H2.out.mono ?_; rintro e w5 ⟨g, hg, rfl, hzi, hb5⟩;
         have bA5 := HM4.out.bA.below hb5 HM4.out.bA.lt;
         have r0 := bA5.cell 0; have r1 := bA5.cell 1; have r2 := bA5.cell 2; have r3 := bA5.cell 3; have r4 := bA5.cell 4; have r5 := bA5.cell 5; have r6 := bA5.cell 6; have r7 := bA5.cell 7; have r8 := bA5.cell 8; have r9 := bA5.cell 9;
         have s0 := bA5.frozen 0; have s1 := bA5.frozen 1; have s2 := bA5.frozen 2; have s3 := bA5.frozen 3; have s4 := bA5.frozen 4; have s5 := bA5.frozen 5; have s6 := bA5.frozen 6; have s7 := bA5.frozen 7; have s8 := bA5.frozen 8; have s9 := bA5.frozen 9;
         simp at r0 r1 r2 r3 r4 r5 r6 r7 r8 r9;
         obtain ⟨WF, hWF⟩ : ∃ WF, WF = ((((((((((w5.setCell ⟨A, 0, none⟩ (.int .i64 11)).setCell ⟨A, 1, none⟩ (.string ⟨#[]⟩)).setCell ⟨A, 2, none⟩ (.int .i64 0)).setCell ⟨A, 3, none⟩ (.int .i64 0)).setCell ⟨A, 4, none⟩ (.float .f64 0)).setCell ⟨A, 5, none⟩ (.string ⟨#[]⟩)).setCell ⟨A, 6, none⟩ (.slice none 0 0)).setCell ⟨A, 7, none⟩ (.slice none 0 0)).setCell ⟨A, 8, none⟩ (.slice none 0 0)).setCell ⟨A, 9, none⟩ (.slice (some ⟨g, 0, none⟩) 2 2)) := ⟨_, rfl⟩;
         have hfin := px_two (R := fun z => ∃ g a b, z = Exp.two 11 (.at_ g 0 2) a b ∧ Q a ∧ P b) HM4.out HYI.out (HYS.out.mono (fun b hb => HSZ.out b hb)) hg hb5 hzi ⟨g, x, y, rfl, HQ.out, HQY.out⟩ hWF;
         have HFIN := Lib.hid hfin; have HWF := Lib.hid hWF; clear bA5 hfin hWF hg hzi hb5))
  all_goals
    rw [← HWF.out]
    go_wp2_with fail
    have f0 := HFIN.out.1.cell 0; have f1 := HFIN.out.1.cell 1; have f2 := HFIN.out.1.cell 2; have f3 := HFIN.out.1.cell 3; have f4 := HFIN.out.1.cell 4; have f5 := HFIN.out.1.cell 5; have f6 := HFIN.out.1.cell 6; have f7 := HFIN.out.1.cell 7; have f8 := HFIN.out.1.cell 8; have f9 := HFIN.out.1.cell 9
    simp at f0 f1 f2 f3 f4 f5 f6 f7 f8 f9
    refine bodyPost_ret (v := .agg #[.int .i64 11, .string ⟨#[]⟩, .int .i64 0, .int .i64 0, .float .f64 0, .string ⟨#[]⟩, .slice none 0 0, .slice none 0 0, .slice none 0 0, .slice (some ⟨g, 0, none⟩) 2 2]) (by simp [results, Tryz.results125, go_sem, f0, f1, f2, f3, f4, f5, f6, f7, f8, f9]) rfl ?_
    exact HFIN.out.2
end
end Go.Proofs.YtjpdbhhjlnmacaaGreat

/- The document's parser: a sum (printed by wip/gen_par6.py). -/
namespace Go.Proofs.YtjpdbhhjlnmacaaGreat
set_option linter.unusedVariables false
open Go.RowKit

section
variable {p : Nat} {tp : Option Addr} {tc : Nat} {ts : List Tok} {en i j l d : Nat} {Q P : Exp → Prop}
/-- How far there is to go. -/
def farW (p l : Nat) (w : World) : Nat := match w.cell? ⟨p, 1, none⟩ with | some (.int _ i) => l - i.toNat | _ => 0
theorem farW_ps {w : World} (h : PS w p tp tc ts en i d) (l : Nat) : farW p l w = l - i := by
  unfold farW
  have := h.blk.cell 1
  simp at this
  rw [this]
  simp
/-- A sum of two. -/
def SumQ (Q P : Exp → Prop) (z : Exp) : Prop := ∃ g a b, z = Exp.two 5 (.at_ g 0 2) a b ∧ Q a ∧ P b

set_option maxHeartbeats 8000000 in
set_option maxRecDepth 100000 in
theorem sum_plus (hin : ∀ w, PS w p tp tc ts en i d → Calls Tryz.prog 134 #[.pointer (some ⟨p, 0, none⟩)] w fun e w' => PX Q p tp tc ts en j d w e w') (hin2 : ∀ w, PS w p tp tc ts en (j + 1) d → Calls Tryz.prog 134 #[.pointer (some ⟨p, 0, none⟩)] w fun e w' => PX P p tp tc ts en l d w e w') (hj : j < l) (hl : l < 9223372036854775807)
    (n0 : tokIs ts j ⟨#[43]⟩ = true) (n1 : tokIs ts l ⟨#[43]⟩ = false) (n2 : tokIs ts l ⟨#[45]⟩ = false) (w : World) (h : PS w p tp tc ts en i d) :
    Calls Tryz.prog 133 #[.pointer (some ⟨p, 0, none⟩)] w fun e w' => PX (SumQ Q P) p tp tc ts en l d w e w' := by
  obtain ⟨W, hW⟩ : ∃ W, W = w.alloc (.cells zero10 29) := ⟨_, rfl⟩
  have hps := px_ps h
  rw [← hW] at hps
  obtain ⟨A, hA⟩ : ∃ A, A = w.heap.size := ⟨_, rfl⟩
  have HC := Lib.hid (hin W hps); have HC2 := Lib.hid hin2; have H0 := Lib.hid h; have HW := Lib.hid hW; have HA := Lib.hid hA
  have HTY := Lib.hid (fun (W : World) (h : PS W p tp tc ts en j d) => take_yes ⟨#[43]⟩ (by omega) n0 W h)
  have HT0 := Lib.hid (fun (W : World) (h : PS W p tp tc ts en l d) => take_not ⟨#[43]⟩ hl n1 W h)
  have HT1 := Lib.hid (fun (W : World) (h : PS W p tp tc ts en l d) => take_not ⟨#[45]⟩ hl n2 W h)
  have hsf := run_store_flt
  clear h hW hA hps hin hin2 n0 n1 n2
  go_enter Tryz.func133, Tryz.ntmps133
  go_upto_region 1 with fail
  unfold zero10 at HW
  rw [← HW.out, ← HA.out]
  go_wp2_with fail
  refine HC.out.mono ?_
  rintro e w1 ⟨x, rfl, hq, hxi, hxs, hps1, ho1⟩
  obtain ⟨p8, q8, e8⟩ := hxi.nslice
  obtain ⟨p9, q9, e9⟩ := hxi.xslice
  obtain ⟨p6, q6, e6⟩ := hxi.val.nslice
  obtain ⟨p7, q7, e7⟩ := hxi.val.xslice
  unfold Exp.agg
  rw [e6, e7, e8, e9]
  have hm := mid_start H0.out hxi (by rw [← HW.out]; exact hxs) hps1 (by rw [← HW.out]; exact ho1) e6 e7 e8 e9
  obtain ⟨W1, hW1⟩ : ∃ W1, W1 = w1.alloc (.cells #[.int .i64 x.k, .string x.s, .int .i64 x.v.k, .int .i64 x.v.n, .float .f64 x.v.f, .string x.v.s, .slice p6 x.v.ns.length q6, .slice p7 x.v.xs.length q7, .slice p8 x.ns.length q8, .slice p9 x.xs.length q9] 29) := ⟨_, rfl⟩
  obtain ⟨B, hB⟩ : ∃ B, B = w1.heap.size := ⟨_, rfl⟩
  rw [← hW1, ← HA.out, ← hB] at hm
  have HM := Lib.hid hm; have HQ := Lib.hid hq; have E6 := Lib.hid e6; have E7 := Lib.hid e7; have E8 := Lib.hid e8; have E9 := Lib.hid e9
  have HW1 := Lib.hid hW1; have HB := Lib.hid hB
  clear hm hq hxi hxs hps1 ho1 hW1 hB e6 e7 e8 e9
  go_upto_region 2 with fail
  rw [← HW1.out, ← HB.out]
  go_loopw [] (fun wr => Hid ((∃ x, Mid w wr A B p tp tc ts en j d x ∧ Q x) ∨ (∃ x, Mid w wr A B p tp tc ts en l d x ∧ SumQ Q P x))) (fun wr => farW p l wr)
  case atStart => exact Lib.hid (.inl ⟨x, HM.out, HQ.out⟩)
  case round =>
    clear HM HQ E6 E7 E8 E9 HW1 HB HC
    rcases hrel.out with ⟨x, hm, hq⟩ | ⟨x, hm, hq⟩
    · obtain ⟨p8, q8, e8⟩ := hm.hin.nslice
      obtain ⟨p9, q9, e9⟩ := hm.hin.xslice
      obtain ⟨p6, q6, e6⟩ := hm.hin.val.nslice
      obtain ⟨p7, q7, e7⟩ := hm.hin.val.xslice
      have HFW := Lib.hid (farW_ps hm.ps l)
      have HM := Lib.hid hm; have HQ := Lib.hid hq; have E6 := Lib.hid e6; have E7 := Lib.hid e7; have E8 := Lib.hid e8; have E9 := Lib.hid e9
      clear hm hq e6 e7 e8 e9
      go_wp2_with fail
      refine (HTY.out _ HM.out.ps).mono ?_
      rintro e W9 ⟨rfl, hpt, hot⟩
      have HM9 := Lib.hid (HM.out.step hpt hot)
      clear hpt hot
      have HSZ : Hid (∀ b, W9.drew.heap.size ≤ b → A + 1 ≤ b ∧ b ≠ B) := Lib.hid (fun b hb => by have := HM9.out.bB.lt; have := HM9.out.hAB; have h1 : W9.drew.heap.size = W9.heap.size := rfl; omega)
      have hbB := HM9.out.bB
      unfold Exp.cells at hbB
      rw [E6.out, E7.out, E8.out, E9.out] at hbB
      have c0 := hbB.cell 0; have c1 := hbB.cell 1; have c2 := hbB.cell 2; have c3 := hbB.cell 3; have c4 := hbB.cell 4; have c5 := hbB.cell 5; have c6 := hbB.cell 6; have c7 := hbB.cell 7; have c8 := hbB.cell 8; have c9 := hbB.cell 9
      simp at c0 c1 c2 c3 c4 c5 c6 c7 c8 c9
      clear hbB
      go_upto_region 3 with fail
      go_region_law (first
        | (go_simp; go_at_call 134; refine (HC2.out _ HM9.out.drew.ps).mono ?_; rintro e w4 ⟨y, rfl, hqy, hyi, hys, hps4, ho4⟩;
             obtain ⟨y8, ym8, f8⟩ := hyi.nslice; obtain ⟨y9, ym9, f9⟩ := hyi.xslice; obtain ⟨y6, ym6, f6⟩ := hyi.val.nslice; obtain ⟨y7, ym7, f7⟩ := hyi.val.xslice;
             unfold Exp.agg; rw [f6, f7, f8, f9];
             have HM4 := Lib.hid (HM9.out.drew.step hps4 ho4);
             have hb4 := HM4.out.bB; unfold Exp.cells at hb4; rw [E6.out, E7.out, E8.out, E9.out] at hb4;
             have k0 := hb4.cell 0; have k1 := hb4.cell 1; have k2 := hb4.cell 2; have k3 := hb4.cell 3; have k4 := hb4.cell 4; have k5 := hb4.cell 5; have k6 := hb4.cell 6; have k7 := hb4.cell 7; have k8 := hb4.cell 8; have k9 := hb4.cell 9;
             simp at k0 k1 k2 k3 k4 k5 k6 k7 k8 k9;
             have HB4 := Lib.hid hb4;
             have F6 := Lib.hid f6; have F7 := Lib.hid f7; have F8 := Lib.hid f8; have F9 := Lib.hid f9; have HQY := Lib.hid hqy; have HYI := Lib.hid hyi; have HYS := Lib.hid hys; have HPS4 := Lib.hid hps4; have HO4 := Lib.hid ho4;
             have h2 := two_lit 5 x y w4 (by unfold i64r; decide) HM4.out.hin hyi;
             unfold Exp.agg at h2; rw [E6.out, E7.out, E8.out, E9.out, f6, f7, f8, f9] at h2;
             have H2 := Lib.hid h2;
             clear h2 hb4 f6 f7 f8 f9 hqy hyi hys hps4 ho4)
        | (go_simp; go_at_call 112; refine H2.out.mono ?_; rintro e w5 ⟨g, hg, rfl, hzi, hb5⟩;
             have bA5 := HB4.out.below hb5 HB4.out.lt;
             have r0 := bA5.cell 0; have r1 := bA5.cell 1; have r2 := bA5.cell 2; have r3 := bA5.cell 3; have r4 := bA5.cell 4; have r5 := bA5.cell 5; have r6 := bA5.cell 6; have r7 := bA5.cell 7; have r8 := bA5.cell 8; have r9 := bA5.cell 9;
             have s0 := bA5.frozen 0; have s1 := bA5.frozen 1; have s2 := bA5.frozen 2; have s3 := bA5.frozen 3; have s4 := bA5.frozen 4; have s5 := bA5.frozen 5; have s6 := bA5.frozen 6; have s7 := bA5.frozen 7; have s8 := bA5.frozen 8; have s9 := bA5.frozen 9;
             simp at r0 r1 r2 r3 r4 r5 r6 r7 r8 r9;
             obtain ⟨WF, hWF⟩ : ∃ WF, WF = ((((((((((w5.setCell ⟨B, 0, none⟩ (.int .i64 5)).setCell ⟨B, 1, none⟩ (.string ⟨#[]⟩)).setCell ⟨B, 2, none⟩ (.int .i64 0)).setCell ⟨B, 3, none⟩ (.int .i64 0)).setCell ⟨B, 4, none⟩ (.float .f64 0)).setCell ⟨B, 5, none⟩ (.string ⟨#[]⟩)).setCell ⟨B, 6, none⟩ (.slice none 0 0)).setCell ⟨B, 7, none⟩ (.slice none 0 0)).setCell ⟨B, 8, none⟩ (.slice none 0 0)).setCell ⟨B, 9, none⟩ (.slice (some ⟨g, 0, none⟩) 2 2)) := ⟨_, rfl⟩;
             have hfin := mid_again (z := Exp.two 5 (.at_ g 0 2) x y) (w5 := w5) (WZ := WF) HM9.out.drew HPS4.out HO4.out hb5 hzi (two_sep (by have := HO4.out.size; have := HSZ.out g; omega) (HM9.out.sep) (HYS.out.mono (fun b hb => HSZ.out b hb))) rfl rfl rfl rfl hWF;
             have HFIN := Lib.hid hfin; have HWF := Lib.hid hWF; have HSQ : Hid (SumQ Q P (Exp.two 5 (.at_ g 0 2) x y)) := Lib.hid ⟨g, x, y, rfl, HQ.out, HQY.out⟩; clear bA5 hfin hWF hg hzi hb5))
      all_goals
        rw [← HWF.out]
        go_wp2_with fail
        go_roundw
        case rel => exact Lib.hid (.inr ⟨_, HFIN.out, HSQ.out⟩)
        case measure => rw [HFW.out, farW_ps HFIN.out.ps]; omega
    · obtain ⟨p8, q8, e8⟩ := hm.hin.nslice
      obtain ⟨p9, q9, e9⟩ := hm.hin.xslice
      obtain ⟨p6, q6, e6⟩ := hm.hin.val.nslice
      obtain ⟨p7, q7, e7⟩ := hm.hin.val.xslice
      have HM := Lib.hid hm; have HQ := Lib.hid hq; have E6 := Lib.hid e6; have E7 := Lib.hid e7; have E8 := Lib.hid e8; have E9 := Lib.hid e9
      clear hm hq e6 e7 e8 e9
      go_wp2_with fail
      refine (HT0.out _ HM.out.ps).mono ?_
      rintro e wt0 ⟨rfl, hpt, hot⟩
      have HM0_ := Lib.hid (HM.out.step hpt hot)
      clear hpt hot
      go_wp2_with fail
      refine (HT1.out _ HM0_.out.ps).mono ?_
      rintro e W9 ⟨rfl, hpt, hot⟩
      have HM9 := Lib.hid (HM0_.out.step hpt hot)
      clear hpt hot
      have hbB := HM9.out.bB; have hbA := HM9.out.bA
      unfold Exp.cells at hbB
      rw [E6.out, E7.out, E8.out, E9.out] at hbB
      have c0 := hbB.cell 0; have c1 := hbB.cell 1; have c2 := hbB.cell 2; have c3 := hbB.cell 3; have c4 := hbB.cell 4; have c5 := hbB.cell 5; have c6 := hbB.cell 6; have c7 := hbB.cell 7; have c8 := hbB.cell 8; have c9 := hbB.cell 9
      have r0 := hbA.cell 0; have r1 := hbA.cell 1; have r2 := hbA.cell 2; have r3 := hbA.cell 3; have r4 := hbA.cell 4; have r5 := hbA.cell 5; have r6 := hbA.cell 6; have r7 := hbA.cell 7; have r8 := hbA.cell 8; have r9 := hbA.cell 9
      have s0 := hbA.frozen 0; have s1 := hbA.frozen 1; have s2 := hbA.frozen 2; have s3 := hbA.frozen 3; have s4 := hbA.frozen 4; have s5 := hbA.frozen 5; have s6 := hbA.frozen 6; have s7 := hbA.frozen 7; have s8 := hbA.frozen 8; have s9 := hbA.frozen 9
      simp at c0 c1 c2 c3 c4 c5 c6 c7 c8 c9 r0 r1 r2 r3 r4 r5 r6 r7 r8 r9
      have hAB := HM9.out.hAB
      obtain ⟨WF, hWF⟩ : ∃ WF, WF = ((((((((((W9.setCell ⟨A, 0, none⟩ (.int .i64 x.k)).setCell ⟨A, 1, none⟩ (.string x.s)).setCell ⟨A, 2, none⟩ (.int .i64 x.v.k)).setCell ⟨A, 3, none⟩ (.int .i64 x.v.n)).setCell ⟨A, 4, none⟩ (.float .f64 x.v.f)).setCell ⟨A, 5, none⟩ (.string x.v.s)).setCell ⟨A, 6, none⟩ (.slice p6 x.v.ns.length q6)).setCell ⟨A, 7, none⟩ (.slice p7 x.v.xs.length q7)).setCell ⟨A, 8, none⟩ (.slice p8 x.ns.length q8)).setCell ⟨A, 9, none⟩ (.slice p9 x.xs.length q9)) := ⟨_, rfl⟩
      obtain ⟨hbF, hPX⟩ := mid_end HM9.out HQ.out E6.out E7.out E8.out E9.out hWF
      have HBF := Lib.hid hbF; have HPX := Lib.hid hPX; have HWF := Lib.hid hWF
      clear hbF hPX hWF hbB hbA
      go_wp2_with fail
      rw [← HWF.out]
      have f0 := HBF.out.cell 0; have f1 := HBF.out.cell 1; have f2 := HBF.out.cell 2; have f3 := HBF.out.cell 3; have f4 := HBF.out.cell 4; have f5 := HBF.out.cell 5; have f6 := HBF.out.cell 6; have f7 := HBF.out.cell 7; have f8 := HBF.out.cell 8; have f9 := HBF.out.cell 9
      simp at f0 f1 f2 f3 f4 f5 f6 f7 f8 f9
      refine bodyPost_ret (v := .agg #[.int .i64 x.k, .string x.s, .int .i64 x.v.k, .int .i64 x.v.n, .float .f64 x.v.f, .string x.v.s, .slice p6 x.v.ns.length q6, .slice p7 x.v.xs.length q7, .slice p8 x.ns.length q8, .slice p9 x.xs.length q9]) (by simp [results, Tryz.results133, go_sem, f0, f1, f2, f3, f4, f5, f6, f7, f8, f9]) rfl ?_
      exact HPX.out
end
end Go.Proofs.YtjpdbhhjlnmacaaGreat

/- The document's parser: levels that count how deep they are (printed by wip/gen_par7.py). -/
namespace Go.Proofs.YtjpdbhhjlnmacaaGreat
set_option linter.unusedVariables false
open Go.RowKit

section
variable {p : Nat} {tp : Option Addr} {tc : Nat} {ts : List Tok} {en i j l d : Nat} {Q P : Exp → Prop}
theorem xzero_in (w : World) : Exp.zero.In w := by
  rw [Exp.in_iff]
  refine ⟨⟨by unfold i64r; decide, by unfold strok; decide, by decide, by decide, fun s h => by simp [Exp.ns] at h⟩, ?_, rfl, rfl, fun x hx => by simp [Exp.xs] at hx⟩
  rw [show Exp.zero.v = Val.zero from rfl, Val.in_iff]
  exact ⟨⟨by unfold i64r; decide, by unfold i64r; decide, by decide, by unfold strok; decide, by decide, by decide, fun s h => by simp [Val.ns] at h⟩, rfl, rfl, fun x hx => by simp [Val.xs] at hx⟩
theorem xzero_sep (S : Nat → Prop) : Exp.zero.Sep S := by
  rw [Exp.sep_iff]
  refine ⟨?_, trivial, trivial, fun x hx => by simp [Exp.xs] at hx⟩
  rw [show Exp.zero.v = Val.zero from rfl, Val.sep_iff]
  exact ⟨trivial, trivial, fun x hx => by simp [Val.xs] at hx⟩
theorem PS.shallow {w : World} (h : PS w p tp tc ts en i (d + 1)) : PS (w.setCell ⟨p, 5, none⟩ (.int .i64 (d : Int))) p tp tc ts en i d ∧ Only w (w.setCell ⟨p, 5, none⟩ (.int .i64 (d : Int))) p :=
  ⟨h.keep (h.blk.set_ 5 (.int .i64 (d : Int))) ((Only.refl w p).set_ (p := ⟨p, 5, none⟩) (.inl rfl) _), (Only.refl w p).set_ (p := ⟨p, 5, none⟩) (.inl rfl) _⟩

set_option maxHeartbeats 8000000 in
set_option maxRecDepth 100000 in
theorem unary_pass (hin : ∀ w, PS w p tp tc ts en i (d + 1) → Calls Tryz.prog 137 #[.pointer (some ⟨p, 0, none⟩)] w fun e w' => PX Q p tp tc ts en j (d + 1) w e w') (hi : i < 9223372036854775807) (hd : d < 100) (n0 : tokIs ts i ⟨#[45]⟩ = false) (n1 : tokIs ts i ⟨#[33]⟩ = false) (w : World) (h : PS w p tp tc ts en i d) :
    Calls Tryz.prog 135 #[.pointer (some ⟨p, 0, none⟩)] w fun e w' => PX Q p tp tc ts en j d w e w' := by
  obtain ⟨W, hW⟩ : ∃ W, W = w.alloc (.cells zero10 29) := ⟨_, rfl⟩
  have hps := px_ps h
  rw [← hW] at hps
  obtain ⟨A, hA⟩ : ∃ A, A = w.heap.size := ⟨_, rfl⟩
  have HD := Lib.hid (down_at hps hd)
  have HC := Lib.hid hin; have H0 := Lib.hid h; have HW := Lib.hid hW; have HA := Lib.hid hA
  have HT0 := Lib.hid (fun (W : World) (h : PS W p tp tc ts en i (d + 1)) => take_not ⟨#[45]⟩ hi n0 W h)
  have HT1 := Lib.hid (fun (W : World) (h : PS W p tp tc ts en i (d + 1)) => take_not ⟨#[33]⟩ hi n1 W h)
  have hsf := run_store_flt
  clear h hW hA hps hin n0 n1
  go_enter Tryz.func135, Tryz.ntmps135
  go_upto_region 1 with fail
  unfold zero10 at HW
  rw [← HW.out, ← HA.out]
  go_wp2_with fail
  refine HD.out.mono ?_
  rintro e w1 ⟨rfl, -, hps1, ho1⟩
  have hm := mid_start (x := Exp.zero) H0.out (xzero_in w1) (xzero_sep _) hps1 (by have := HW.out; unfold zero10; rw [← this]; exact ho1) rfl rfl rfl rfl
  obtain ⟨W1, hW1⟩ : ∃ W1, W1 = w1.alloc (.cells zero10 29) := ⟨_, rfl⟩
  obtain ⟨B, hB⟩ : ∃ B, B = w1.heap.size := ⟨_, rfl⟩
  have hm' : Mid w W1 A B p tp tc ts en i (d + 1) Exp.zero := by rw [hW1, hB, HA.out]; exact hm
  have HM := Lib.hid hm'
  have HW1 := Lib.hid hW1; have HB := Lib.hid hB
  clear hm hm' hps1 ho1 hW1 hB
  go_upto_region 3 with fail
  unfold zero10 at HW1
  rw [← HW1.out, ← HB.out]
  go_wp2_with fail
  refine (HT0.out _ HM.out.ps).mono ?_
  rintro e wt0 ⟨rfl, hpt, hot⟩
  have HM0_ := Lib.hid (HM.out.step hpt hot)
  clear hpt hot
  go_wp2_with fail
  refine (HT1.out _ HM0_.out.ps).mono ?_
  rintro e wt1 ⟨rfl, hpt, hot⟩
  have HM1_ := Lib.hid (HM0_.out.step hpt hot)
  clear hpt hot
  go_wp2_with fail
  refine (HC.out _ HM1_.out.ps).mono ?_
  rintro e w4 ⟨x, rfl, hq, hxi, hxs, hps4, ho4⟩
  obtain ⟨p8, q8, e8⟩ := hxi.nslice
  obtain ⟨p9, q9, e9⟩ := hxi.xslice
  obtain ⟨p6, q6, e6⟩ := hxi.val.nslice
  obtain ⟨p7, q7, e7⟩ := hxi.val.xslice
  unfold Exp.agg
  rw [e6, e7, e8, e9]
  obtain ⟨W8, hW8⟩ : ∃ W8, W8 = ((((((((((w4.setCell ⟨B, 0, none⟩ (.int .i64 x.k)).setCell ⟨B, 1, none⟩ (.string x.s)).setCell ⟨B, 2, none⟩ (.int .i64 x.v.k)).setCell ⟨B, 3, none⟩ (.int .i64 x.v.n)).setCell ⟨B, 4, none⟩ (.float .f64 x.v.f)).setCell ⟨B, 5, none⟩ (.string x.v.s)).setCell ⟨B, 6, none⟩ (.slice p6 x.v.ns.length q6)).setCell ⟨B, 7, none⟩ (.slice p7 x.v.xs.length q7)).setCell ⟨B, 8, none⟩ (.slice p8 x.ns.length q8)).setCell ⟨B, 9, none⟩ (.slice p9 x.xs.length q9)) := ⟨_, rfl⟩
  have HM8 := Lib.hid (mid_again (z := x) (w5 := w4) (WZ := W8) HM1_.out hps4 ho4 (Below.refl _ w4) hxi (hxs.mono (fun b hb => by have := HM1_.out.bB.lt; have := HM1_.out.hAB; omega)) e6 e7 e8 e9 hW8)
  have bB4 := HM1_.out.bB.grown ho4 (by have := HM1_.out.hp; have := HM1_.out.hAB; simp; omega)
  have r0 := bB4.cell 0; have r1 := bB4.cell 1; have r2 := bB4.cell 2; have r3 := bB4.cell 3; have r4 := bB4.cell 4; have r5 := bB4.cell 5; have r6 := bB4.cell 6; have r7 := bB4.cell 7; have r8 := bB4.cell 8; have r9 := bB4.cell 9
  have s0 := bB4.frozen 0; have s1 := bB4.frozen 1; have s2 := bB4.frozen 2; have s3 := bB4.frozen 3; have s4 := bB4.frozen 4; have s5 := bB4.frozen 5; have s6 := bB4.frozen 6; have s7 := bB4.frozen 7; have s8 := bB4.frozen 8; have s9 := bB4.frozen 9
  simp only [Exp.cells, Exp.zero, List.getElem?_toArray, List.getElem?_cons_zero, List.getElem?_cons_succ] at r0 r1 r2 r3 r4 r5 r6 r7 r8 r9
  have HQ := Lib.hid hq; have E6 := Lib.hid e6; have E7 := Lib.hid e7; have E8 := Lib.hid e8; have E9 := Lib.hid e9; have HW8 := Lib.hid hW8
  clear hq hxi hxs hps4 ho4 e6 e7 e8 e9 hW8 bB4
  go_upto_region 8 with fail
  rw [← HW8.out]
  clear r0 r1 r2 r3 r4 r5 r6 r7 r8 r9 s0 s1 s2 s3 s4 s5 s6 s7 s8 s9
  have c5' := HM8.out.ps.blk.cell 5
  simp at c5'
  have d5' := HM8.out.ps.blk.frozen 5
  have hpB := HM8.out.hp
  have hABx := HM8.out.hAB
  obtain ⟨W9, hW9⟩ : ∃ W9, W9 = W8.setCell ⟨p, 5, none⟩ (.int .i64 (d : Int)) := ⟨_, rfl⟩
  have HM9 := Lib.hid (by have := HM8.out.step (PS.shallow HM8.out.ps).1 (PS.shallow HM8.out.ps).2; rw [← hW9] at this; exact this)
  have HW9 := Lib.hid hW9
  clear hW9
  
  go_upto_region 9 with fail
  rw [← HW9.out]
  have hbB := HM9.out.bB; have hbA := HM9.out.bA
  unfold Exp.cells at hbB
  rw [E6.out, E7.out, E8.out, E9.out] at hbB
  have c0 := hbB.cell 0; have c1 := hbB.cell 1; have c2 := hbB.cell 2; have c3 := hbB.cell 3; have c4 := hbB.cell 4; have c5 := hbB.cell 5; have c6 := hbB.cell 6; have c7 := hbB.cell 7; have c8 := hbB.cell 8; have c9 := hbB.cell 9
  have r0 := hbA.cell 0; have r1 := hbA.cell 1; have r2 := hbA.cell 2; have r3 := hbA.cell 3; have r4 := hbA.cell 4; have r5 := hbA.cell 5; have r6 := hbA.cell 6; have r7 := hbA.cell 7; have r8 := hbA.cell 8; have r9 := hbA.cell 9
  have s0 := hbA.frozen 0; have s1 := hbA.frozen 1; have s2 := hbA.frozen 2; have s3 := hbA.frozen 3; have s4 := hbA.frozen 4; have s5 := hbA.frozen 5; have s6 := hbA.frozen 6; have s7 := hbA.frozen 7; have s8 := hbA.frozen 8; have s9 := hbA.frozen 9
  simp at c0 c1 c2 c3 c4 c5 c6 c7 c8 c9 r0 r1 r2 r3 r4 r5 r6 r7 r8 r9
  have hAB := HM9.out.hAB
  obtain ⟨WF, hWF⟩ : ∃ WF, WF = ((((((((((W9.setCell ⟨A, 0, none⟩ (.int .i64 x.k)).setCell ⟨A, 1, none⟩ (.string x.s)).setCell ⟨A, 2, none⟩ (.int .i64 x.v.k)).setCell ⟨A, 3, none⟩ (.int .i64 x.v.n)).setCell ⟨A, 4, none⟩ (.float .f64 x.v.f)).setCell ⟨A, 5, none⟩ (.string x.v.s)).setCell ⟨A, 6, none⟩ (.slice p6 x.v.ns.length q6)).setCell ⟨A, 7, none⟩ (.slice p7 x.v.xs.length q7)).setCell ⟨A, 8, none⟩ (.slice p8 x.ns.length q8)).setCell ⟨A, 9, none⟩ (.slice p9 x.xs.length q9)) := ⟨_, rfl⟩
  obtain ⟨hbF, hPX⟩ := mid_end HM9.out HQ.out E6.out E7.out E8.out E9.out hWF
  have HBF := Lib.hid hbF; have HPX := Lib.hid hPX; have HWF := Lib.hid hWF
  clear hbF hPX hWF hbB hbA
  go_wp2_with fail
  rw [← HWF.out]
  have f0 := HBF.out.cell 0; have f1 := HBF.out.cell 1; have f2 := HBF.out.cell 2; have f3 := HBF.out.cell 3; have f4 := HBF.out.cell 4; have f5 := HBF.out.cell 5; have f6 := HBF.out.cell 6; have f7 := HBF.out.cell 7; have f8 := HBF.out.cell 8; have f9 := HBF.out.cell 9
  simp at f0 f1 f2 f3 f4 f5 f6 f7 f8 f9
  refine bodyPost_ret (v := .agg #[.int .i64 x.k, .string x.s, .int .i64 x.v.k, .int .i64 x.v.n, .float .f64 x.v.f, .string x.v.s, .slice p6 x.v.ns.length q6, .slice p7 x.v.xs.length q7, .slice p8 x.ns.length q8, .slice p9 x.xs.length q9]) (by simp [results, Tryz.results135, go_sem, f0, f1, f2, f3, f4, f5, f6, f7, f8, f9]) rfl ?_
  exact HPX.out

set_option maxHeartbeats 8000000 in
set_option maxRecDepth 100000 in
theorem expr_pass (hin : ∀ w, PS w p tp tc ts en i (d + 1) → Calls Tryz.prog 92 #[.pointer (some ⟨p, 0, none⟩)] w fun e w' => PX Q p tp tc ts en j (d + 1) w e w') (hj : j < 9223372036854775807) (hd : d < 100) (n0 : tokIs ts j ⟨#[63]⟩ = false) (w : World) (h : PS w p tp tc ts en i d) :
    Calls Tryz.prog 64 #[.pointer (some ⟨p, 0, none⟩)] w fun e w' => PX Q p tp tc ts en j d w e w' := by
  obtain ⟨W, hW⟩ : ∃ W, W = w.alloc (.cells zero10 29) := ⟨_, rfl⟩
  have hps := px_ps h
  rw [← hW] at hps
  obtain ⟨A, hA⟩ : ∃ A, A = w.heap.size := ⟨_, rfl⟩
  have HD := Lib.hid (down_at hps hd)
  have HC := Lib.hid hin; have H0 := Lib.hid h; have HW := Lib.hid hW; have HA := Lib.hid hA
  have HT0 := Lib.hid (fun (W : World) (h : PS W p tp tc ts en j (d + 1)) => take_not ⟨#[63]⟩ hj n0 W h)
  have hsf := run_store_flt
  clear h hW hA hps hin n0
  go_enter Tryz.func64, Tryz.ntmps64
  go_upto_region 1 with fail
  unfold zero10 at HW
  rw [← HW.out, ← HA.out]
  go_wp2_with fail
  refine HD.out.mono ?_
  rintro e wd ⟨rfl, -, hpsd, hod⟩
  have HOD := Lib.hid hod; have HPSD := Lib.hid hpsd
  clear hod hpsd
  go_wp2_with fail
  refine (HC.out _ HPSD.out).mono ?_
  rintro e w1 ⟨x, rfl, hq, hxi, hxs0, hps1, ho10⟩
  have ho1 := HOD.out.trans ho10
  have hxs : x.Sep (fun b => W.heap.size ≤ b) := hxs0.mono (fun b hb => Nat.le_trans HOD.out.size hb)
  clear hxs0 ho10
  obtain ⟨p8, q8, e8⟩ := hxi.nslice
  obtain ⟨p9, q9, e9⟩ := hxi.xslice
  obtain ⟨p6, q6, e6⟩ := hxi.val.nslice
  obtain ⟨p7, q7, e7⟩ := hxi.val.xslice
  unfold Exp.agg
  rw [e6, e7, e8, e9]
  have hm := mid_start H0.out hxi (by rw [← HW.out]; exact hxs) hps1 (by rw [← HW.out]; exact ho1) e6 e7 e8 e9
  obtain ⟨W1, hW1⟩ : ∃ W1, W1 = w1.alloc (.cells #[.int .i64 x.k, .string x.s, .int .i64 x.v.k, .int .i64 x.v.n, .float .f64 x.v.f, .string x.v.s, .slice p6 x.v.ns.length q6, .slice p7 x.v.xs.length q7, .slice p8 x.ns.length q8, .slice p9 x.xs.length q9] 29) := ⟨_, rfl⟩
  obtain ⟨B, hB⟩ : ∃ B, B = w1.heap.size := ⟨_, rfl⟩
  rw [← hW1, ← HA.out, ← hB] at hm
  have HM := Lib.hid hm; have HQ := Lib.hid hq; have E6 := Lib.hid e6; have E7 := Lib.hid e7; have E8 := Lib.hid e8; have E9 := Lib.hid e9
  have HW1 := Lib.hid hW1; have HB := Lib.hid hB
  clear hm hq hxi hxs hps1 ho1 hW1 hB e6 e7 e8 e9
  go_upto_region 3 with fail
  rw [← HW1.out, ← HB.out]
  go_wp2_with fail
  refine (HT0.out _ HM.out.ps).mono ?_
  rintro e W8 ⟨rfl, hpt, hot⟩
  have HM8 := Lib.hid (HM.out.step hpt hot)
  clear hpt hot
  have c5' := HM8.out.ps.blk.cell 5
  simp at c5'
  have d5' := HM8.out.ps.blk.frozen 5
  have hpB := HM8.out.hp
  have hABx := HM8.out.hAB
  obtain ⟨W9, hW9⟩ : ∃ W9, W9 = W8.setCell ⟨p, 5, none⟩ (.int .i64 (d : Int)) := ⟨_, rfl⟩
  have HM9 := Lib.hid (by have := HM8.out.step (PS.shallow HM8.out.ps).1 (PS.shallow HM8.out.ps).2; rw [← hW9] at this; exact this)
  have HW9 := Lib.hid hW9
  clear hW9
  
  go_upto_region 9 with fail
  rw [← HW9.out]
  have hbB := HM9.out.bB; have hbA := HM9.out.bA
  unfold Exp.cells at hbB
  rw [E6.out, E7.out, E8.out, E9.out] at hbB
  have c0 := hbB.cell 0; have c1 := hbB.cell 1; have c2 := hbB.cell 2; have c3 := hbB.cell 3; have c4 := hbB.cell 4; have c5 := hbB.cell 5; have c6 := hbB.cell 6; have c7 := hbB.cell 7; have c8 := hbB.cell 8; have c9 := hbB.cell 9
  have r0 := hbA.cell 0; have r1 := hbA.cell 1; have r2 := hbA.cell 2; have r3 := hbA.cell 3; have r4 := hbA.cell 4; have r5 := hbA.cell 5; have r6 := hbA.cell 6; have r7 := hbA.cell 7; have r8 := hbA.cell 8; have r9 := hbA.cell 9
  have s0 := hbA.frozen 0; have s1 := hbA.frozen 1; have s2 := hbA.frozen 2; have s3 := hbA.frozen 3; have s4 := hbA.frozen 4; have s5 := hbA.frozen 5; have s6 := hbA.frozen 6; have s7 := hbA.frozen 7; have s8 := hbA.frozen 8; have s9 := hbA.frozen 9
  simp at c0 c1 c2 c3 c4 c5 c6 c7 c8 c9 r0 r1 r2 r3 r4 r5 r6 r7 r8 r9
  have hAB := HM9.out.hAB
  obtain ⟨WF, hWF⟩ : ∃ WF, WF = ((((((((((W9.setCell ⟨A, 0, none⟩ (.int .i64 x.k)).setCell ⟨A, 1, none⟩ (.string x.s)).setCell ⟨A, 2, none⟩ (.int .i64 x.v.k)).setCell ⟨A, 3, none⟩ (.int .i64 x.v.n)).setCell ⟨A, 4, none⟩ (.float .f64 x.v.f)).setCell ⟨A, 5, none⟩ (.string x.v.s)).setCell ⟨A, 6, none⟩ (.slice p6 x.v.ns.length q6)).setCell ⟨A, 7, none⟩ (.slice p7 x.v.xs.length q7)).setCell ⟨A, 8, none⟩ (.slice p8 x.ns.length q8)).setCell ⟨A, 9, none⟩ (.slice p9 x.xs.length q9)) := ⟨_, rfl⟩
  obtain ⟨hbF, hPX⟩ := mid_end HM9.out HQ.out E6.out E7.out E8.out E9.out hWF
  have HBF := Lib.hid hbF; have HPX := Lib.hid hPX; have HWF := Lib.hid hWF
  clear hbF hPX hWF hbB hbA
  go_wp2_with fail
  rw [← HWF.out]
  have f0 := HBF.out.cell 0; have f1 := HBF.out.cell 1; have f2 := HBF.out.cell 2; have f3 := HBF.out.cell 3; have f4 := HBF.out.cell 4; have f5 := HBF.out.cell 5; have f6 := HBF.out.cell 6; have f7 := HBF.out.cell 7; have f8 := HBF.out.cell 8; have f9 := HBF.out.cell 9
  simp at f0 f1 f2 f3 f4 f5 f6 f7 f8 f9
  refine bodyPost_ret (v := .agg #[.int .i64 x.k, .string x.s, .int .i64 x.v.k, .int .i64 x.v.n, .float .f64 x.v.f, .string x.v.s, .slice p6 x.v.ns.length q6, .slice p7 x.v.xs.length q7, .slice p8 x.ns.length q8, .slice p9 x.xs.length q9]) (by simp [results, Tryz.results64, go_sem, f0, f1, f2, f3, f4, f5, f6, f7, f8, f9]) rfl ?_
  exact HPX.out
end
end Go.Proofs.YtjpdbhhjlnmacaaGreat
