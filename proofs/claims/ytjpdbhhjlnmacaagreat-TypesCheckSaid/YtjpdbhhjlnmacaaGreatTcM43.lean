/- The document's parser: lists (printed by wip/gen_par9.py). -/
import Derived.Test.YtjpdbhhjlnmacaaGreatTcM42
namespace Go.Proofs.YtjpdbhhjlnmacaaGreat
set_option linter.unusedVariables false
open Go.RowKit

theorem exp_facts : (Tryz.prog.info? 29).map (fun i => (i.zero, i.size, i.bytes)) = some (some (.agg #[.int .i64 0, .string ByteArray.empty, .int .i64 0, .int .i64 0, .float .f64 0, .string ByteArray.empty, .slice none 0 0, .slice none 0 0, .slice none 0 0, .slice none 0 0]), 10, 160) := by kernel_rfl
section
variable {p : Nat} {tp : Option Addr} {tc : Nat} {ts : List Tok} {en i j l d : Nat} {Q P : Exp → Prop}
abbrev listX (xa : Sl) (xs : List Exp) : Exp := .mk 16 ⟨#[]⟩ (.mk 0 0 0 ⟨#[]⟩ .no [] .no []) .no [] xa xs
theorem mid_kids {w w4 w8 W' : World} {A B : Nat} {y : Exp} {xa : Sl} {v : Value} (h : Mid w w4 A B p tp tc ts en j d (listX .no [])) (hyi : y.In w4) (hys : y.Sep (fun b => A + 1 ≤ b ∧ b ≠ B)) (hb8 : Below w4.heap.size w4 w8) (hv : v = xa.val 1)
    (hl : xa.lies w8 10 1 (fun i => ([y].getD i Exp.zero).cells)) (hsp : xa.sep (fun b => w4.heap.size ≤ b) 1) (hW : W' = w8.setCell ⟨B, 9, none⟩ v) : Mid w W' A B p tp tc ts en j d (listX xa [y]) := by
  have hps8 := h.ps.below hb8
  have bA8 := h.bA.below hb8 h.bA.lt
  have bB8 := h.bB.below hb8 h.bB.lt
  have ho8 : Only w w8 p := h.only.trans (Only.of_below hb8 p)
  have hp := h.hp; have hAB := h.hAB; have hA := h.hA; have hB4 := h.bB.lt
  have hoW : Only w8 W' B := by rw [hW]; exact (Only.refl w8 B).set_ (p := ⟨B, 9, none⟩) (.inl rfl) _
  have hsep : (listX xa [y]).Sep (fun b => A + 1 ≤ b ∧ b ≠ B) := by
    rw [Exp.sep_iff]
    refine ⟨?_, trivial, hsp.mono (fun b hb => by omega), fun x hx => ?_⟩
    · rw [Val.sep_iff]
      exact ⟨trivial, trivial, fun x hx => by simp [Exp.v, Val.xs] at hx⟩
    · obtain rfl : x = y := by simpa [Exp.xs] using hx
      exact hys
  have hin : (listX xa [y]).In w8 := by
    rw [Exp.in_iff]
    refine ⟨⟨by show i64r 16; unfold i64r; decide, by show (⟨#[]⟩ : ByteArray).size ≤ _; decide, by show 0 ≤ _; omega, by show 1 ≤ _; omega, fun s h => by simp [Exp.ns] at h⟩, ?_, rfl, hl, fun x hx => ?_⟩
    · rw [Val.in_iff]
      exact ⟨⟨by show i64r 0; unfold i64r; decide, by show i64r 0; unfold i64r; decide, by show (0 : Nat) < 18446744073709551616; decide, by show (⟨#[]⟩ : ByteArray).size ≤ _; decide, by show (0 : Nat) ≤ _; omega, by show (0 : Nat) ≤ _; omega, fun s h => by simp [Exp.v, Val.ns] at h⟩, rfl, rfl, fun x hx => by simp [Exp.v, Val.xs] at hx⟩
    · obtain rfl : x = y := by simpa [Exp.xs] using hx
      exact hyi.below hb8
  refine ⟨hA, hp, hAB, ?_, by rw [hW]; exact ho8.set_ (p := ⟨B, 9, none⟩) (.inr (by show w.heap.size ≤ B; omega)) _, bA8.grown hoW (by simp; omega), ?_, In.only hin hsep (fun b hb => hb.2) hoW, hsep, h.toks⟩
  · refine hps8.keep2 (hps8.blk.grown hoW (by simp; omega)) hoW.size (fun g hg hl => ?_)
    have hgA := h.toks g 0 none hg
    exact hoW.block g (by have := bA8.lt; omega) (by simp; omega)
  · rw [hW, hv]
    have := bB8.set_ 9 (xa.val 1)
    exact this
theorem px_hand {w W w4 WF : World} {A : Nat} {x : Exp} {v6 v7 v8 v9 : Value} (hA : A = w.heap.size) (h0 : PS w p tp tc ts en i d) (ho : Only w W p) (bA : Blk W A 29 zero10) (hq : Q x) (hxi : x.In w4) (hxs : x.Sep (fun b => W.heap.size ≤ b)) (hps4 : PS w4 p tp tc ts en j d) (ho4 : Only W w4 p)
    (e6 : x.v.na.val x.v.ns.length = v6) (e7 : x.v.xa.val x.v.xs.length = v7) (e8 : x.na.val x.ns.length = v8) (e9 : x.xa.val x.xs.length = v9)
    (hWF : WF = ((((((((((w4.setCell ⟨A, 0, none⟩ (.int .i64 x.k)).setCell ⟨A, 1, none⟩ (.string x.s)).setCell ⟨A, 2, none⟩ (.int .i64 x.v.k)).setCell ⟨A, 3, none⟩ (.int .i64 x.v.n)).setCell ⟨A, 4, none⟩ (.float .f64 x.v.f)).setCell ⟨A, 5, none⟩ (.string x.v.s)).setCell ⟨A, 6, none⟩ (v6)).setCell ⟨A, 7, none⟩ (v7)).setCell ⟨A, 8, none⟩ (v8)).setCell ⟨A, 9, none⟩ (v9))) : Blk WF A 29 #[.int .i64 x.k, .string x.s, .int .i64 x.v.k, .int .i64 x.v.n, .float .f64 x.v.f, .string x.v.s, v6, v7, v8, v9] ∧ PX Q p tp tc ts en j d w (.returned (.agg #[.int .i64 x.k, .string x.s, .int .i64 x.v.k, .int .i64 x.v.n, .float .f64 x.v.f, .string x.v.s, v6, v7, v8, v9])) WF := by
  have hp : p < A := by rw [hA]; exact h0.blk.lt
  have bA4 := bA.grown ho4 (by simp; omega)
  have hz := bA.lt
  have hoF : Only w4 WF A := by
    rw [hWF]
    exact ((((((((((Only.refl w4 A).set_ (p := ⟨A, 0, none⟩) (.inl rfl) _).set_ (p := ⟨A, 1, none⟩) (.inl rfl) _).set_ (p := ⟨A, 2, none⟩) (.inl rfl) _).set_ (p := ⟨A, 3, none⟩) (.inl rfl) _).set_ (p := ⟨A, 4, none⟩) (.inl rfl) _).set_ (p := ⟨A, 5, none⟩) (.inl rfl) _).set_ (p := ⟨A, 6, none⟩) (.inl rfl) _).set_ (p := ⟨A, 7, none⟩) (.inl rfl) _).set_ (p := ⟨A, 8, none⟩) (.inl rfl) _).set_ (p := ⟨A, 9, none⟩) (.inl rfl) _
  have hb : Blk WF A 29 #[.int .i64 x.k, .string x.s, .int .i64 x.v.k, .int .i64 x.v.n, .float .f64 x.v.f, .string x.v.s, v6, v7, v8, v9] := by rw [hWF]; exact blk10_set bA4 (.int .i64 x.k) (.string x.s) (.int .i64 x.v.k) (.int .i64 x.v.n) (.float .f64 x.v.f) (.string x.v.s) (v6) (v7) (v8) (v9)
  have how : Only w WF p := by rw [hWF]; exact only10_set (ho.trans ho4) (by omega) (.int .i64 x.k) (.string x.s) (.int .i64 x.v.k) (.int .i64 x.v.n) (.float .f64 x.v.f) (.string x.v.s) (v6) (v7) (v8) (v9)
  refine ⟨hb, x, by unfold Exp.agg; rw [e6, e7, e8, e9], hq, In.only hxi hxs (fun b hb => by omega) hoF, hxs.mono (fun b hb => by omega), ?_, how⟩
  refine hps4.keep2 (hps4.blk.grown hoF (by simp; omega)) hoF.size (fun g hg hl => ?_)
  have hgA := h0.toks_lt g 0 none hg
  exact hoF.block g (by have := bA4.lt; omega) (by simp; omega)

set_option maxHeartbeats 8000000 in
set_option maxRecDepth 100000 in
theorem list_nil (hi : i < 9223372036854775807) (n0 : tokIs ts i ⟨#[93]⟩ = true) (w : World) (h : PS w p tp tc ts en i d) :
    Calls Tryz.prog 140 #[.pointer (some ⟨p, 0, none⟩)] w fun e w' => PX (fun x => x = listX .no []) p tp tc ts en (i + 1) d w e w' := by
  obtain ⟨W, hW⟩ : ∃ W, W = w.alloc (.cells zero10 29) := ⟨_, rfl⟩
  have hps := px_ps h
  rw [← hW] at hps
  obtain ⟨A, hA⟩ : ∃ A, A = w.heap.size := ⟨_, rfl⟩
  have hm0 := mid_start (x := listX .no []) h (leafx_in (k := 16) (s := ⟨#[]⟩) (vk := 0) (vn := 0) (vf := 0) (vs := ⟨#[]⟩) W (by unfold i64r; decide) (by show (⟨#[]⟩ : ByteArray).size ≤ _; decide) (by unfold i64r; decide) (by unfold i64r; decide) (by decide) (by show (⟨#[]⟩ : ByteArray).size ≤ _; decide)) (leafx_sep _) hps (by rw [hW]; exact Only.refl _ p) rfl rfl rfl rfl
  obtain ⟨B, hB⟩ : ∃ B, B = W.heap.size := ⟨_, rfl⟩
  obtain ⟨W1, hW1⟩ : ∃ W1, W1 = W.alloc (.cells #[.int .i64 16, .string ⟨#[]⟩, .int .i64 0, .int .i64 0, .float .f64 0, .string ⟨#[]⟩, .slice none 0 0, .slice none 0 0, .slice none 0 0, .slice none 0 0] 29) := ⟨_, rfl⟩
  have hm : Mid w W1 A B p tp tc ts en i d (listX .no []) := by rw [hA, hB, hW1]; exact hm0
  have HM := Lib.hid hm; have HW := Lib.hid hW; have HA := Lib.hid hA; have HB := Lib.hid hB; have HW1 := Lib.hid hW1
  have HT0 := Lib.hid (fun (W : World) (h : PS W p tp tc ts en i d) => take_yes ⟨#[93]⟩ hi n0 W h)
  have hsf := run_store_flt
  clear h hW hA hps hm0 hm hB hW1 n0
  go_enter Tryz.func140, Tryz.ntmps140
  go_upto_region 1 with fail
  unfold zero10 at HW
  rw [← HW.out, ← HA.out]
  go_upto_region 2 with fail
  rw [← HW1.out, ← HB.out]
  go_wp2_with fail
  refine (HT0.out _ HM.out.ps).mono ?_
  rintro e W9 ⟨rfl, hpt, hot⟩
  have HM9' := Lib.hid (HM.out.step hpt hot)
  clear hpt hot
  obtain ⟨x, hx⟩ : ∃ x, x = listX .no [] := ⟨_, rfl⟩
  have HM9 : Hid (Mid w W9 A B p tp tc ts en (i + 1) d x) := by rw [hx]; exact HM9'
  have HQ : Hid ((fun x => x = listX .no []) x) := Lib.hid hx
  clear hx
  obtain ⟨p8, q8, e8⟩ := HM9.out.hin.nslice
  obtain ⟨p9, q9, e9⟩ := HM9.out.hin.xslice
  obtain ⟨p6, q6, e6⟩ := HM9.out.hin.val.nslice
  obtain ⟨p7, q7, e7⟩ := HM9.out.hin.val.xslice
  have E6 := Lib.hid e6; have E7 := Lib.hid e7; have E8 := Lib.hid e8; have E9 := Lib.hid e9
  clear e6 e7 e8 e9
  have hbB := HM9.out.bB; have hbA := HM9.out.bA
  unfold Exp.cells at hbB
  rw [E6.out, E7.out, E8.out, E9.out] at hbB
  have c0 := hbB.cell 0; have c1 := hbB.cell 1; have c2 := hbB.cell 2; have c3 := hbB.cell 3; have c4 := hbB.cell 4; have c5 := hbB.cell 5; have c6 := hbB.cell 6; have c7 := hbB.cell 7; have c8 := hbB.cell 8; have c9 := hbB.cell 9
  have r0 := hbA.cell 0; have r1 := hbA.cell 1; have r2 := hbA.cell 2; have r3 := hbA.cell 3; have r4 := hbA.cell 4; have r5 := hbA.cell 5; have r6 := hbA.cell 6; have r7 := hbA.cell 7; have r8 := hbA.cell 8; have r9 := hbA.cell 9
  have s0 := hbA.frozen 0; have s1 := hbA.frozen 1; have s2 := hbA.frozen 2; have s3 := hbA.frozen 3; have s4 := hbA.frozen 4; have s5 := hbA.frozen 5; have s6 := hbA.frozen 6; have s7 := hbA.frozen 7; have s8 := hbA.frozen 8; have s9 := hbA.frozen 9
  simp at c0 c1 c2 c3 c4 c5 c6 c7 c8 c9 r0 r1 r2 r3 r4 r5 r6 r7 r8 r9
  have hAB := HM9.out.hAB
  obtain ⟨WF, hWF⟩ : ∃ WF, WF = ((((((((((W9.setCell ⟨A, 0, none⟩ (.int .i64 x.k)).setCell ⟨A, 1, none⟩ (.string x.s)).setCell ⟨A, 2, none⟩ (.int .i64 x.v.k)).setCell ⟨A, 3, none⟩ (.int .i64 x.v.n)).setCell ⟨A, 4, none⟩ (.float .f64 x.v.f)).setCell ⟨A, 5, none⟩ (.string x.v.s)).setCell ⟨A, 6, none⟩ (.slice p6 x.v.ns.length q6)).setCell ⟨A, 7, none⟩ (.slice p7 x.v.xs.length q7)).setCell ⟨A, 8, none⟩ (.slice p8 x.ns.length q8)).setCell ⟨A, 9, none⟩ (.slice p9 x.xs.length q9)) := ⟨_, rfl⟩
  obtain ⟨hbF, hPX⟩ := mid_end (Q := fun x => x = listX .no []) HM9.out HQ.out E6.out E7.out E8.out E9.out hWF
  have HBF := Lib.hid hbF; have HPX := Lib.hid hPX; have HWF := Lib.hid hWF
  clear hbF hPX hWF hbB hbA
  go_wp2_with fail
  rw [← HWF.out]
  have f0 := HBF.out.cell 0; have f1 := HBF.out.cell 1; have f2 := HBF.out.cell 2; have f3 := HBF.out.cell 3; have f4 := HBF.out.cell 4; have f5 := HBF.out.cell 5; have f6 := HBF.out.cell 6; have f7 := HBF.out.cell 7; have f8 := HBF.out.cell 8; have f9 := HBF.out.cell 9
  simp at f0 f1 f2 f3 f4 f5 f6 f7 f8 f9
  refine bodyPost_ret (v := .agg #[.int .i64 x.k, .string x.s, .int .i64 x.v.k, .int .i64 x.v.n, .float .f64 x.v.f, .string x.v.s, .slice p6 x.v.ns.length q6, .slice p7 x.v.xs.length q7, .slice p8 x.ns.length q8, .slice p9 x.xs.length q9]) (by simp [results, Tryz.results140, go_sem, f0, f1, f2, f3, f4, f5, f6, f7, f8, f9]) rfl ?_
  exact HPX.out

set_option maxHeartbeats 8000000 in
set_option maxRecDepth 100000 in
theorem list_one (hin : ∀ w, PS w p tp tc ts en i d → Calls Tryz.prog 64 #[.pointer (some ⟨p, 0, none⟩)] w fun e w' => PX Q p tp tc ts en j d w e w') (hi : i < 9223372036854775807) (hj : j < 9223372036854775807) (n0 : tokIs ts i ⟨#[93]⟩ = false) (n1 : tokIs ts j ⟨#[44]⟩ = false) (n2 : tokIs ts j ⟨#[93]⟩ = true) (w : World) (h : PS w p tp tc ts en i d) :
    Calls Tryz.prog 140 #[.pointer (some ⟨p, 0, none⟩)] w fun e w' => PX (fun x => ∃ xa y, x = listX xa [y] ∧ Q y) p tp tc ts en (j + 1) d w e w' := by
  obtain ⟨W, hW⟩ : ∃ W, W = w.alloc (.cells zero10 29) := ⟨_, rfl⟩
  have hps := px_ps h
  rw [← hW] at hps
  obtain ⟨A, hA⟩ : ∃ A, A = w.heap.size := ⟨_, rfl⟩
  have hm0 := mid_start (x := listX .no []) h (leafx_in (k := 16) (s := ⟨#[]⟩) (vk := 0) (vn := 0) (vf := 0) (vs := ⟨#[]⟩) W (by unfold i64r; decide) (by show (⟨#[]⟩ : ByteArray).size ≤ _; decide) (by unfold i64r; decide) (by unfold i64r; decide) (by decide) (by show (⟨#[]⟩ : ByteArray).size ≤ _; decide)) (leafx_sep _) hps (by rw [hW]; exact Only.refl _ p) rfl rfl rfl rfl
  obtain ⟨B, hB⟩ : ∃ B, B = W.heap.size := ⟨_, rfl⟩
  obtain ⟨W1, hW1⟩ : ∃ W1, W1 = W.alloc (.cells #[.int .i64 16, .string ⟨#[]⟩, .int .i64 0, .int .i64 0, .float .f64 0, .string ⟨#[]⟩, .slice none 0 0, .slice none 0 0, .slice none 0 0, .slice none 0 0] 29) := ⟨_, rfl⟩
  have hm : Mid w W1 A B p tp tc ts en i d (listX .no []) := by rw [hA, hB, hW1]; exact hm0
  have HM := Lib.hid hm; have HW := Lib.hid hW; have HA := Lib.hid hA; have HB := Lib.hid hB; have HW1 := Lib.hid hW1
  have HT0 := Lib.hid (fun (W : World) (h : PS W p tp tc ts en i d) => take_not ⟨#[93]⟩ hi n0 W h)
  have HT1 := Lib.hid (fun (W : World) (h : PS W p tp tc ts en j d) => take_not ⟨#[44]⟩ hj n1 W h)
  have HT2 := Lib.hid (fun (W : World) (h : PS W p tp tc ts en j d) => want_at ⟨#[93]⟩ h hj n2)
  have HC := Lib.hid hin
  obtain ⟨i0, hi0, hz0, hz1, hz2⟩ := info_parts exp_facts
  have hsf := run_store_flt
  clear h hW hA hps hm0 hm hB hW1 n0 n1 n2 hin
  go_enter Tryz.func140, Tryz.ntmps140
  go_upto_region 1 with fail
  unfold zero10 at HW
  rw [← HW.out, ← HA.out]
  go_upto_region 2 with fail
  rw [← HW1.out, ← HB.out]
  go_wp2_with fail
  refine (HT0.out _ HM.out.ps).mono ?_
  rintro e W8 ⟨rfl, hpt, hot⟩
  have HM8 := Lib.hid (HM.out.step hpt hot)
  clear hpt hot
  have hbB := HM8.out.bB
  have c9 := hbB.cell 9
  simp only [Exp.cells, List.getElem?_toArray, List.getElem?_cons_zero, List.getElem?_cons_succ] at c9
  have c9' : W8.cell? ⟨B, 9, none⟩ = some (.slice none 0 0) := c9
  have ce := HM8.out.ps.blk.cell 3
  simp at ce
  clear hbB c9
  go_wp2_with fail
  go_loopw [] (fun wr => wr = W8) (fun _ => 0)
  case atStart => rfl
  case round =>
    subst hrel
    have HSZ : Hid (∀ b, wr.drew.heap.size ≤ b → A + 1 ≤ b ∧ b ≠ B) := Lib.hid (fun b hb => by have := HM8.out.bB.lt; have := HM8.out.hAB; have h1 : wr.drew.heap.size = wr.heap.size := rfl; omega)
    go_upto_region 5 with fail
    go_region_law (first
      | (refine step_append_any (w := w4.alloc (.cells #[.int .i64 y.k, .string y.s, .int .i64 y.v.k, .int .i64 y.v.n, .float .f64 y.v.f, .string y.v.s, .slice y6 y.v.ns.length ym6, .slice y7 y.v.xs.length ym7, .slice y8 y.ns.length ym8, .slice y9 y.xs.length ym9] 29)) rfl (.tmp 14) (.tmp 17) 27 rfl w4.heap.size 29 i0 (.agg #[.int .i64 0, .string ByteArray.empty, .int .i64 0, .int .i64 0, .float .f64 0, .string ByteArray.empty, .slice none 0 0, .slice none 0 0, .slice none 0 0, .slice none 0 0]) 10 160 Tryz.underlying27 hi0 hz0 hz1 hz2 rfl (by decide) (.slice none 0 0) 0 [] rfl HOWN.out (w4.heap.size + 1) (some ⟨w4.heap.size, 0, none⟩) 1 1 y.cells rfl HRED.out (xcells_one y) (by unfold maxLen; omega) (by omega) (by simp) ?_;
         intro v' w8 hown' hgrow hor;
         have hb8 : Below w4.heap.size w4 w8 := ((Below.refl _ w4).alloc (Nat.le_refl _) (.cells #[.int .i64 y.k, .string y.s, .int .i64 y.v.k, .int .i64 y.v.n, .float .f64 y.v.f, .string y.v.s, .slice y6 y.v.ns.length ym6, .slice y7 y.v.xs.length ym7, .slice y8 y.ns.length ym8, .slice y9 y.xs.length ym9] 29)).grown hgrow (by simp) (fun k hk => by simp [Value.ownBlock] at hk);
         obtain ⟨sx, hsx, hlx, hspx⟩ := xrowLies_of_own (us := [y]) (by simpa [Elem.row, expE] using hown');
         obtain ⟨ax', cx', rfl⟩ := row_form hown';
         have bB8 := HM4.out.bB.below hb8 HM4.out.bB.lt;
         have k9 := bB8.cell 9; have k9f := bB8.frozen 9;
         simp only [Exp.cells, List.getElem?_toArray, List.getElem?_cons_zero, List.getElem?_cons_succ] at k9;
         obtain ⟨WN, hWN⟩ : ∃ WN, WN = w8.setCell ⟨B, 9, none⟩ (.slice ax' 1 cx') := ⟨_, rfl⟩;
         have HMN := Lib.hid (mid_kids (y := y) HM4.out HYI.out (HYS.out.mono (fun b hb => HSZ.out b hb)) hb8 hsx hlx hspx hWN);
         have HWN := Lib.hid hWN;
         clear hb8 hsx hlx hspx hown' hgrow hor bB8 hWN)
      | (go_simp; go_at_call 64; refine (HC.out _ HM8.out.drew.ps).mono ?_; rintro e w4 ⟨y, rfl, hqy, hyi, hys, hps4, ho4⟩;
         obtain ⟨y8, ym8, f8⟩ := hyi.nslice; obtain ⟨y9, ym9, f9⟩ := hyi.xslice; obtain ⟨y6, ym6, f6⟩ := hyi.val.nslice; obtain ⟨y7, ym7, f7⟩ := hyi.val.xslice;
         unfold Exp.agg; rw [f6, f7, f8, f9];
         have HM4 := Lib.hid (HM8.out.drew.step hps4 ho4);
         have k9 := HM4.out.bB.cell 9;
         simp only [Exp.cells, List.getElem?_toArray, List.getElem?_cons_zero, List.getElem?_cons_succ] at k9;
         have k9' : w4.cell? ⟨B, 9, none⟩ = some (.slice none 0 0) := k9;
         have hred : Reads (w4.alloc (.cells #[.int .i64 y.k, .string y.s, .int .i64 y.v.k, .int .i64 y.v.n, .float .f64 y.v.f, .string y.v.s, .slice y6 y.v.ns.length ym6, .slice y7 y.v.xs.length ym7, .slice y8 y.ns.length ym8, .slice y9 y.xs.length ym9] 29)) (w4.heap.size + 1) 10 (some ⟨w4.heap.size, 0, none⟩) 1 y.cells := by
           unfold Exp.cells; rw [f6, f7, f8, f9]; exact row_reads w4 _ 29;
         have hown : (w4.alloc (.cells #[.int .i64 y.k, .string y.s, .int .i64 y.v.k, .int .i64 y.v.n, .float .f64 y.v.f, .string y.v.s, .slice y6 y.v.ns.length ym6, .slice y7 y.v.xs.length ym7, .slice y8 y.ns.length ym8, .slice y9 y.xs.length ym9] 29)).ownsRow w4.heap.size 29 10 (.slice none 0 0) 0 [] := ⟨by simp, .inl ⟨rfl, rfl⟩⟩;
         have klt : B < w4.heap.size := HM4.out.bB.lt;
         have HRED := Lib.hid hred; have HOWN := Lib.hid hown; have HYI := Lib.hid hyi; have HYS := Lib.hid hys; have HQY := Lib.hid hqy;
         clear k9 hred hown hqy hyi hys hps4 ho4 f6 f7 f8 f9))
    all_goals
      rw [← HWN.out]
      go_wp2_with fail
      refine (HT1.out _ HMN.out.ps).mono ?_
      rintro e wt1 ⟨rfl, hpt, hot⟩
      have HMN1 := Lib.hid (HMN.out.step hpt hot)
      clear hpt hot
      go_wp2_with fail
      refine (HT2.out _ HMN1.out.ps).mono ?_
      rintro e W9 ⟨rfl, hpt, hot⟩
      have HM9' := Lib.hid (HMN1.out.step hpt hot)
      clear hpt hot
      obtain ⟨x, hx⟩ : ∃ x, x = listX sx [y] := ⟨_, rfl⟩
      have HM9 : Hid (Mid w W9 A B p tp tc ts en (j + 1) d x) := by rw [hx]; exact HM9'
      have HQ : Hid ((fun x => ∃ xa y, x = listX xa [y] ∧ Q y) x) := Lib.hid ⟨sx, y, hx, HQY.out⟩
      clear hx
      obtain ⟨p8, q8, e8⟩ := HM9.out.hin.nslice
      obtain ⟨p9, q9, e9⟩ := HM9.out.hin.xslice
      obtain ⟨p6, q6, e6⟩ := HM9.out.hin.val.nslice
      obtain ⟨p7, q7, e7⟩ := HM9.out.hin.val.xslice
      have E6 := Lib.hid e6; have E7 := Lib.hid e7; have E8 := Lib.hid e8; have E9 := Lib.hid e9
      clear e6 e7 e8 e9
      have hbB := HM9.out.bB; have hbA := HM9.out.bA
      unfold Exp.cells at hbB
      rw [E6.out, E7.out, E8.out, E9.out] at hbB
      have c0 := hbB.cell 0; have c1 := hbB.cell 1; have c2 := hbB.cell 2; have c3 := hbB.cell 3; have c4 := hbB.cell 4; have c5 := hbB.cell 5; have c6 := hbB.cell 6; have c7 := hbB.cell 7; have c8 := hbB.cell 8; have c9 := hbB.cell 9
      have r0 := hbA.cell 0; have r1 := hbA.cell 1; have r2 := hbA.cell 2; have r3 := hbA.cell 3; have r4 := hbA.cell 4; have r5 := hbA.cell 5; have r6 := hbA.cell 6; have r7 := hbA.cell 7; have r8 := hbA.cell 8; have r9 := hbA.cell 9
      have s0 := hbA.frozen 0; have s1 := hbA.frozen 1; have s2 := hbA.frozen 2; have s3 := hbA.frozen 3; have s4 := hbA.frozen 4; have s5 := hbA.frozen 5; have s6 := hbA.frozen 6; have s7 := hbA.frozen 7; have s8 := hbA.frozen 8; have s9 := hbA.frozen 9
      simp at c0 c1 c2 c3 c4 c5 c6 c7 c8 c9 r0 r1 r2 r3 r4 r5 r6 r7 r8 r9
      have hAB := HM9.out.hAB
      obtain ⟨WF, hWF⟩ : ∃ WF, WF = ((((((((((W9.setCell ⟨A, 0, none⟩ (.int .i64 x.k)).setCell ⟨A, 1, none⟩ (.string x.s)).setCell ⟨A, 2, none⟩ (.int .i64 x.v.k)).setCell ⟨A, 3, none⟩ (.int .i64 x.v.n)).setCell ⟨A, 4, none⟩ (.float .f64 x.v.f)).setCell ⟨A, 5, none⟩ (.string x.v.s)).setCell ⟨A, 6, none⟩ (.slice p6 x.v.ns.length q6)).setCell ⟨A, 7, none⟩ (.slice p7 x.v.xs.length q7)).setCell ⟨A, 8, none⟩ (.slice p8 x.ns.length q8)).setCell ⟨A, 9, none⟩ (.slice p9 x.xs.length q9)) := ⟨_, rfl⟩
      obtain ⟨hbF, hPX⟩ := mid_end (Q := fun x => ∃ xa y, x = listX xa [y] ∧ Q y) HM9.out HQ.out E6.out E7.out E8.out E9.out hWF
      have HBF := Lib.hid hbF; have HPX := Lib.hid hPX; have HWF := Lib.hid hWF
      clear hbF hPX hWF hbB hbA
      go_wp2_with fail
      rw [← HWF.out]
      have f0 := HBF.out.cell 0; have f1 := HBF.out.cell 1; have f2 := HBF.out.cell 2; have f3 := HBF.out.cell 3; have f4 := HBF.out.cell 4; have f5 := HBF.out.cell 5; have f6 := HBF.out.cell 6; have f7 := HBF.out.cell 7; have f8 := HBF.out.cell 8; have f9 := HBF.out.cell 9
      simp at f0 f1 f2 f3 f4 f5 f6 f7 f8 f9
      refine bodyPost_ret (v := .agg #[.int .i64 x.k, .string x.s, .int .i64 x.v.k, .int .i64 x.v.n, .float .f64 x.v.f, .string x.v.s, .slice p6 x.v.ns.length q6, .slice p7 x.v.xs.length q7, .slice p8 x.ns.length q8, .slice p9 x.xs.length q9]) (by simp [results, Tryz.results140, go_sem, f0, f1, f2, f3, f4, f5, f6, f7, f8, f9]) rfl ?_
      exact HPX.out

set_option maxHeartbeats 8000000 in
set_option maxRecDepth 100000 in
theorem prim_list (hin : ∀ w, PS w p tp tc ts en (i + 1) d → Calls Tryz.prog 140 #[.pointer (some ⟨p, 0, none⟩)] w fun e w' => PX Q p tp tc ts en j d w e w') (hi : i < 9223372036854775807) (n0 : tokIs ts i ⟨#[40]⟩ = false) (n1 : tokIs ts i ⟨#[91]⟩ = true) (w : World) (h : PS w p tp tc ts en i d) :
    Calls Tryz.prog 138 #[.pointer (some ⟨p, 0, none⟩)] w fun e w' => PX Q p tp tc ts en j d w e w' := by
  obtain ⟨W, hW⟩ : ∃ W, W = w.alloc (.cells zero10 29) := ⟨_, rfl⟩
  have hps := px_ps h
  rw [← hW] at hps
  obtain ⟨A, hA⟩ : ∃ A, A = w.heap.size := ⟨_, rfl⟩
  have hoW : Only w W p := by rw [hW]; exact Only.of_below ((Below.refl _ w).alloc (Nat.le_refl _) _) p
  have hbA : Blk W A 29 zero10 := by rw [hW, hA]; exact Blk.new w 29 zero10
  have hpA : p < A := by rw [hA]; exact h.blk.lt
  have H0 := Lib.hid h; have HW := Lib.hid hW; have HA := Lib.hid hA; have HPS := Lib.hid hps; have HOW := Lib.hid hoW; have HBA := Lib.hid hbA
  have HT0 := Lib.hid (fun (W : World) (h : PS W p tp tc ts en i d) => take_not ⟨#[40]⟩ hi n0 W h)
  have HT1 := Lib.hid (fun (W : World) (h : PS W p tp tc ts en i d) => take_yes ⟨#[91]⟩ hi n1 W h)
  have HC := Lib.hid hin
  have hsf := run_store_flt
  have c3 := hps.blk.cell 3
  simp at c3
  clear h hW hA hps n0 n1 hoW hbA hin
  go_enter Tryz.func138, Tryz.ntmps138
  go_upto_region 1 with fail
  unfold zero10 at HW
  rw [← HW.out, ← HA.out]
  go_wp2_with fail
  refine (HT0.out _ HPS.out).mono ?_
  rintro e wt0 ⟨rfl, hpt, hot⟩
  have HPS0 := Lib.hid hpt
  have HO0 := Lib.hid (HOW.out.trans hot)
  have HB0 := Lib.hid (HBA.out.grown hot (by simp; omega))
  clear hpt hot
  go_wp2_with fail
  refine (HT1.out _ HPS0.out).mono ?_
  rintro e wt1 ⟨rfl, hpt, hot⟩
  have HPS1 := Lib.hid hpt
  have HO1 := Lib.hid (HO0.out.trans hot)
  have HB1 := Lib.hid (HB0.out.grown hot (by simp; omega))
  clear hpt hot
  go_wp2_with fail
  refine (HC.out _ HPS1.out).mono ?_
  rintro e w4 ⟨x, rfl, hq, hxi, hxs, hps4, ho4⟩
  obtain ⟨p8, q8, e8⟩ := hxi.nslice
  obtain ⟨p9, q9, e9⟩ := hxi.xslice
  obtain ⟨p6, q6, e6⟩ := hxi.val.nslice
  obtain ⟨p7, q7, e7⟩ := hxi.val.xslice
  unfold Exp.agg
  rw [e6, e7, e8, e9]
  have bA4 := HB1.out.grown ho4 (by simp; omega)
  obtain ⟨WF, hWF⟩ : ∃ WF, WF = ((((((((((w4.setCell ⟨A, 0, none⟩ (.int .i64 x.k)).setCell ⟨A, 1, none⟩ (.string x.s)).setCell ⟨A, 2, none⟩ (.int .i64 x.v.k)).setCell ⟨A, 3, none⟩ (.int .i64 x.v.n)).setCell ⟨A, 4, none⟩ (.float .f64 x.v.f)).setCell ⟨A, 5, none⟩ (.string x.v.s)).setCell ⟨A, 6, none⟩ (.slice p6 x.v.ns.length q6)).setCell ⟨A, 7, none⟩ (.slice p7 x.v.xs.length q7)).setCell ⟨A, 8, none⟩ (.slice p8 x.ns.length q8)).setCell ⟨A, 9, none⟩ (.slice p9 x.xs.length q9)) := ⟨_, rfl⟩
  have HFIN := Lib.hid (px_hand (Q := Q) HA.out H0.out HO1.out HB1.out hq hxi hxs hps4 ho4 e6 e7 e8 e9 hWF)
  have HWF := Lib.hid hWF
  have r0 := bA4.cell 0; have r1 := bA4.cell 1; have r2 := bA4.cell 2; have r3 := bA4.cell 3; have r4 := bA4.cell 4; have r5 := bA4.cell 5; have r6 := bA4.cell 6; have r7 := bA4.cell 7; have r8 := bA4.cell 8; have r9 := bA4.cell 9
  have s0 := bA4.frozen 0; have s1 := bA4.frozen 1; have s2 := bA4.frozen 2; have s3 := bA4.frozen 3; have s4 := bA4.frozen 4; have s5 := bA4.frozen 5; have s6 := bA4.frozen 6; have s7 := bA4.frozen 7; have s8 := bA4.frozen 8; have s9 := bA4.frozen 9
  simp at r0 r1 r2 r3 r4 r5 r6 r7 r8 r9
  clear hq hxi hxs hps4 ho4 e6 e7 e8 e9 hWF bA4
  go_wp2_with fail
  rw [← HWF.out]
  have f0 := HFIN.out.1.cell 0; have f1 := HFIN.out.1.cell 1; have f2 := HFIN.out.1.cell 2; have f3 := HFIN.out.1.cell 3; have f4 := HFIN.out.1.cell 4; have f5 := HFIN.out.1.cell 5; have f6 := HFIN.out.1.cell 6; have f7 := HFIN.out.1.cell 7; have f8 := HFIN.out.1.cell 8; have f9 := HFIN.out.1.cell 9
  simp at f0 f1 f2 f3 f4 f5 f6 f7 f8 f9
  refine bodyPost_ret (v := .agg #[.int .i64 x.k, .string x.s, .int .i64 x.v.k, .int .i64 x.v.n, .float .f64 x.v.f, .string x.v.s, .slice p6 x.v.ns.length q6, .slice p7 x.v.xs.length q7, .slice p8 x.ns.length q8, .slice p9 x.xs.length q9]) (by simp [results, Tryz.results138, go_sem, f0, f1, f2, f3, f4, f5, f6, f7, f8, f9]) rfl ?_
  exact HFIN.out.2
end
end Go.Proofs.YtjpdbhhjlnmacaaGreat
