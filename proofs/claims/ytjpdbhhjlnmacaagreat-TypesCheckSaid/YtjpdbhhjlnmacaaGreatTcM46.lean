/- The law package's 'awake' of layer 9 answers true (printed by wip/gen_tyawake.py). -/
import Derived.Test.YtjpdbhhjlnmacaaGreatTcM14
import Derived.Test.YtjpdbhhjlnmacaaGreatTcM20
import Derived.Test.YtjpdbhhjlnmacaaGreatTcM22
import Derived.Test.YtjpdbhhjlnmacaaGreatTcM36
import Derived.Test.YtjpdbhhjlnmacaaGreatTcM40
import Derived.Test.YtjpdbhhjlnmacaaGreatTcM45
import Derived.BigGuardPart
namespace Go.Proofs.YtjpdbhhjlnmacaaGreat
set_option linter.unusedVariables false
open Go.RowKit

/-- The variable x, an int. -/
abbrev xV : Var := ⟨⟨#[120]⟩, 0, .mk 2 .no [] .no [], .mk 0 0 0 ⟨#[]⟩ .no [] .no []⟩
theorem xv_in (w : World) : xV.In w := by
  refine ⟨strok1 _, by unfold i64r; decide, ?_, ?_⟩
  · rw [Ty.in_iff]
    exact ⟨⟨by show i64r 2; unfold i64r; decide, by show (0 : Nat) ≤ _; omega, by show (0 : Nat) ≤ _; omega, fun s h => by simp [Ty.ns] at h⟩, rfl, rfl, fun x hx => by simp [Ty.xs] at hx⟩
  · rw [Val.in_iff]
    exact ⟨⟨by show i64r 0; unfold i64r; decide, by show i64r 0; unfold i64r; decide, by show (0 : Nat) < 18446744073709551616; decide, by show (⟨#[]⟩ : ByteArray).size ≤ _; decide, by show (0 : Nat) ≤ _; omega, by show (0 : Nat) ≤ _; omega, fun s h => by simp [Val.ns] at h⟩, rfl, rfl, fun x hx => by simp [Val.xs] at hx⟩
theorem xvars_in (w : World) : VarsIn (w.alloc (.cells #[.string ⟨#[120]⟩, .int .i64 0, .int .i64 2, .slice none 0 0, .slice none 0 0, .int .i64 0, .int .i64 0, .float .f64 0, .string ⟨#[]⟩, .slice none 0 0, .slice none 0 0] 56)) (some ⟨w.heap.size, 0, none⟩) 1 [xV] := by
  refine ⟨by show 1 ≤ _; omega, Nat.le_refl _, fun i hi => ⟨w.heap.size, 0, rfl, fun j hj => ?_, ?_, ?_⟩⟩
  · obtain rfl : i = 0 := by simpa using hi
    rw [show 0 + 0 * 11 + j = j by omega, (Blk.new w 56 _).cell]
    show (#[.string ⟨#[120]⟩, .int .i64 0, .int .i64 2, .slice none 0 0, .slice none 0 0, .int .i64 0, .int .i64 0, .float .f64 0, .string ⟨#[]⟩, .slice none 0 0, .slice none 0 0] : Array Value)[j]? = xV.cells[j]?
    have : j = 0 ∨ j = 1 ∨ j = 2 ∨ j = 3 ∨ j = 4 ∨ j = 5 ∨ j = 6 ∨ j = 7 ∨ j = 8 ∨ j = 9 ∨ j = 10 := by omega
    rcases this with rfl | rfl | rfl | rfl | rfl | rfl | rfl | rfl | rfl | rfl | rfl <;> rfl
  · simp
  · obtain rfl : i = 0 := by simpa using hi
    exact xv_in _

set_option maxHeartbeats 4000000 in
set_option maxRecDepth 100000 in
theorem checked_any (s : ByteArray) (Q : Exp → Prop) (R : Except Int Ty)
    (hp : ∀ w, Calls Tryz.prog 45 #[.string s] w fun e w' => ∃ x : Exp, e = .returned (.tuple #[x.agg, .int .i64 0, .int .i64 0]) ∧ Q x ∧ x.In w' ∧ x.Sep (fun b => w.heap.size ≤ b) ∧ Below w.heap.size w w')
    (hR : ∀ x, Q x → checkF x [xV] = R) (w : World) : Calls Tryz.prog 24 #[.string s] w fun e w' => CheckRes R w e w' := by
  obtain ⟨W, hW⟩ : ∃ W, W = w.alloc (.cells #[.int .i64 0, .slice none 0 0, .slice none 0 0] 36) := ⟨_, rfl⟩
  obtain ⟨A, hA⟩ : ∃ A, A = w.heap.size := ⟨_, rfl⟩
  have hBW : Below w.heap.size w W := by rw [hW]; exact (Below.refl _ w).alloc (Nat.le_refl _) _
  have hbA : Blk W A 36 #[.int .i64 0, .slice none 0 0, .slice none 0 0] := by rw [hW, hA]; exact Blk.new w 36 _
  have HP := Lib.hid (hp W); have HR := Lib.hid hR
  have HW := Lib.hid hW; have HA := Lib.hid hA; have HBW := Lib.hid hBW; have HBA := Lib.hid hbA
  have hsf := run_store_flt
  clear hW hA hBW hbA hp hR
  go_enter Tryz.func24, Tryz.ntmps24
  go_upto_region 1 with fail
  rw [← HW.out, ← HA.out]
  go_wp2_with fail
  refine HP.out.mono ?_
  rintro e w1 ⟨x, rfl, hq, hxi, hxs, hb1⟩
  obtain ⟨p8, q8, e8⟩ := hxi.nslice
  obtain ⟨p9, q9, e9⟩ := hxi.xslice
  obtain ⟨p6, q6, e6⟩ := hxi.val.nslice
  obtain ⟨p7, q7, e7⟩ := hxi.val.xslice
  unfold Exp.agg
  rw [e6, e7, e8, e9]
  obtain ⟨W2, hW2⟩ : ∃ W2, W2 = w1.alloc (.cells #[.int .i64 x.k, .string x.s, .int .i64 x.v.k, .int .i64 x.v.n, .float .f64 x.v.f, .string x.v.s, .slice p6 x.v.ns.length q6, .slice p7 x.v.xs.length q7, .slice p8 x.ns.length q8, .slice p9 x.xs.length q9] 29) := ⟨_, rfl⟩
  obtain ⟨B, hB⟩ : ∃ B, B = w1.heap.size := ⟨_, rfl⟩
  have hb2 : Below w1.heap.size w1 W2 := by rw [hW2]; exact (Below.refl _ w1).alloc (Nat.le_refl _) _
  have hbB : Blk W2 B 29 #[.int .i64 x.k, .string x.s, .int .i64 x.v.k, .int .i64 x.v.n, .float .f64 x.v.f, .string x.v.s, .slice p6 x.v.ns.length q6, .slice p7 x.v.xs.length q7, .slice p8 x.ns.length q8, .slice p9 x.xs.length q9] := by rw [hW2, hB]; exact Blk.new w1 29 _
  have hbA2 : Blk W2 A 36 #[.int .i64 0, .slice none 0 0, .slice none 0 0] := (HBA.out.below hb1 HBA.out.lt).below hb2 (by have := HBA.out.lt; have := hb1.size; omega)
  obtain ⟨W3, hW3⟩ : ∃ W3, W3 = W2.alloc (.cells #[.string ⟨#[120]⟩, .int .i64 0, .int .i64 2, .slice none 0 0, .slice none 0 0, .int .i64 0, .int .i64 0, .float .f64 0, .string ⟨#[]⟩, .slice none 0 0, .slice none 0 0] 56) := ⟨_, rfl⟩
  have hb3 : Below W2.heap.size W2 W3 := by rw [hW3]; exact (Below.refl _ W2).alloc (Nat.le_refl _) _
  have hv3 : VarsIn W3 (some ⟨W2.heap.size, 0, none⟩) 1 [xV] := by rw [hW3]; exact xvars_in W2
  have hx3 : x.In W3 := (hxi.below hb2).below hb3
  have hbA3 : Blk W3 A 36 #[.int .i64 0, .slice none 0 0, .slice none 0 0] := hbA2.below hb3 hbA2.lt
  have hB3 : Below w.heap.size w W3 := HBW.out.trans ((hb1.trans ((hb2.trans (hb3.mono hb2.size)).mono hb1.size)).mono HBW.out.size)
  have hck := checkf_any x [xV] (some ⟨W2.heap.size, 0, none⟩) 1 W3 hx3 hv3
  rw [HR.out x hq] at hck
  unfold Exp.agg at hck
  rw [e6, e7, e8, e9] at hck
  have c0 := hbB.cell 0; have c1 := hbB.cell 1; have c2 := hbB.cell 2; have c3 := hbB.cell 3; have c4 := hbB.cell 4; have c5 := hbB.cell 5; have c6 := hbB.cell 6; have c7 := hbB.cell 7; have c8 := hbB.cell 8; have c9 := hbB.cell 9
  simp at c0 c1 c2 c3 c4 c5 c6 c7 c8 c9
  have hB2l : B < W2.heap.size := hbB.lt
  have hA3l : A < W3.heap.size := hbA3.lt
  have HC := Lib.hid hck; have HW2 := Lib.hid hW2; have HB := Lib.hid hB; have HW3 := Lib.hid hW3; have HB3 := Lib.hid hB3; have HBA3 := Lib.hid hbA3
  clear hq hxi hxs hb1 hW2 hB hb2 hbB hbA2 hW3 hb3 hv3 hx3 hbA3 hB3 hck e6 e7 e8 e9
  go_upto_region 2 with fail
  rw [← HW2.out, ← HB.out]
  go_wp2_with fail
  rw [← HW3.out]
  refine HC.out.mono ?_
  have hA3 := HA.out
  rintro e w4 ⟨hb4, hr⟩
  have hbA4 := HBA3.out.below hb4 hA3l
  have r0 := hbA4.cell 0; have r1 := hbA4.cell 1; have r2 := hbA4.cell 2
  have s0 := hbA4.frozen 0; have s1 := hbA4.frozen 1; have s2 := hbA4.frozen 2
  simp at r0 r1 r2
  have HA2 := Lib.hid hA3
  clear c0 c1 c2 c3 c4 c5 c6 c7 c8 c9 hA3
  cases R with
  | error k =>
    simp only at hr
    subst hr
    obtain ⟨WF, hWF⟩ : ∃ WF, WF = ((w4.setCell ⟨A, 0, none⟩ (.int .i64 0)).setCell ⟨A, 1, none⟩ (.slice none 0 0)).setCell ⟨A, 2, none⟩ (.slice none 0 0) := ⟨_, rfl⟩
    have hF : Blk WF A 36 #[.int .i64 0, .slice none 0 0, .slice none 0 0] := by rw [hWF]; exact blk3_set hbA4 _ _ _
    have hBF : Below w.heap.size w WF := by rw [hWF]; exact below3_set (HB3.out.trans (hb4.mono HB3.out.size)) (by have := HA2.out; omega) _ _ _
    have HF := Lib.hid hF; have HBF := Lib.hid hBF; have HWF := Lib.hid hWF
    clear hF hBF hWF hbA4 hb4
    rw [show Ty.zero.agg = .agg #[.int .i64 0, .slice none 0 0, .slice none 0 0] from rfl]
    go_wp2_with fail
    rw [← HWF.out]
    have f0 := HF.out.cell 0; have f1 := HF.out.cell 1; have f2 := HF.out.cell 2
    simp at f0 f1 f2
    refine bodyPost_ret (v := .tuple #[.agg #[.int .i64 0, .slice none 0 0, .slice none 0 0], .int .i64 k]) (by simp [results, Tryz.results24, go_sem, f0, f1, f2]) rfl ?_
    exact ⟨HBF.out, rfl⟩
  | ok v =>
    obtain ⟨u, rfl, hue, hui, hus⟩ := hr
    obtain ⟨k4, l4, f4⟩ := hui.nslice
    obtain ⟨k5, l5, f5⟩ := hui.xslice
    unfold Ty.agg
    rw [f4, f5]
    obtain ⟨WF, hWF⟩ : ∃ WF, WF = ((w4.setCell ⟨A, 0, none⟩ (.int .i64 u.k)).setCell ⟨A, 1, none⟩ (.slice k4 u.ns.length l4)).setCell ⟨A, 2, none⟩ (.slice k5 u.xs.length l5) := ⟨_, rfl⟩
    have hF : Blk WF A 36 #[.int .i64 u.k, .slice k4 u.ns.length l4, .slice k5 u.xs.length l5] := by rw [hWF]; exact blk3_set hbA4 _ _ _
    have hBF : Below w.heap.size w WF := by rw [hWF]; exact below3_set (HB3.out.trans (hb4.mono HB3.out.size)) (by have := HA2.out; omega) _ _ _
    have hoF : Only w4 WF A := by rw [hWF]; exact (((Only.refl w4 A).set_ (p := ⟨A, 0, none⟩) (.inl rfl) _).set_ (p := ⟨A, 1, none⟩) (.inl rfl) _).set_ (p := ⟨A, 2, none⟩) (.inl rfl) _
    have hIF : u.In WF := hui.carryS hus (fun b o hb hlt => World.cell?_of_block (a := ⟨b, o, none⟩) (hoF.block b hlt (by simp; omega))) hoF.size
    have HF := Lib.hid hF; have HBF := Lib.hid hBF; have HWF := Lib.hid hWF; have HIF := Lib.hid hIF; have HUE := Lib.hid hue; have HUS := Lib.hid (hus.mono (fun b hb => Nat.le_trans HB3.out.size hb)); have F4 := Lib.hid f4; have F5 := Lib.hid f5
    clear hF hBF hWF hbA4 hb4 hoF hIF hue hus hui f4 f5
    go_wp2_with fail
    rw [← HWF.out]
    have f0 := HF.out.cell 0; have f1 := HF.out.cell 1; have f2 := HF.out.cell 2
    simp at f0 f1 f2
    refine bodyPost_ret (v := .tuple #[.agg #[.int .i64 u.k, .slice k4 u.ns.length l4, .slice k5 u.xs.length l5], .int .i64 0]) (by simp [results, Tryz.results24, go_sem, f0, f1, f2]) rfl ?_
    exact ⟨HBF.out, u, by unfold Ty.agg; rw [F4.out, F5.out], HUE.out, HIF.out, HUS.out⟩

theorem ck1 (w : World) : Calls Tryz.prog 24 #[.string tx1] w fun e w' => CheckRes (.ok (Ty.of 1)) w e w' :=
  checked_any tx1 Q1 _ parse_tx1 (fun x hx => by obtain ⟨g, a, b, rfl, ⟨g', a', b', rfl, rfl, rfl⟩, rfl⟩ := hx; kernel_rfl) w
theorem ck2 (w : World) : Calls Tryz.prog 24 #[.string tx2] w fun e w' => CheckRes (.ok (.mk 5 .no [] .no [Ty.of 2])) w e w' :=
  checked_any tx2 Q2 _ parse_tx2 (fun x hx => by obtain ⟨g, a, b, rfl, rfl, xa, y, rfl, rfl⟩ := hx; kernel_rfl) w
theorem ck3 (w : World) : Calls Tryz.prog 24 #[.string tx3] w fun e w' => CheckRes (.error 6) w e w' :=
  checked_any tx3 Q3 _ parse_tx3 (fun x hx => by obtain ⟨g, a, b, rfl, rfl, rfl⟩ := hx; kernel_rfl) w
theorem ck4 (w : World) : Calls Tryz.prog 24 #[.string tx4] w fun e w' => CheckRes (.error 11) w e w' :=
  checked_any tx4 Q4 _ parse_tx4 (fun x hx => by rw [show x = yX from hx]; kernel_rfl) w
theorem ck5 (w : World) : Calls Tryz.prog 24 #[.string tx5] w fun e w' => CheckRes (.ok (.mk 5 .no [] .no [Ty.of 7])) w e w' :=
  checked_any tx5 Q5 _ parse_tx5 (fun x hx => by rw [show x = listX .no [] from hx]; kernel_rfl) w
end Go.Proofs.YtjpdbhhjlnmacaaGreat

/- The law package's 'awake' of layer 9 answers true. -/
namespace Go.Proofs.YtjpdbhhjlnmacaaGreat
set_option linter.unusedVariables false
open Go.RowKit

/-- A list's type: what its cells are. -/
theorem list_cells {w : World} {u : Ty} {t : Int} (hu : u.In w) (he : u.erase = .mk 5 .no [] .no [Ty.of t]) : u.k = 5 ∧ ∃ b o c, u.xa.val u.xs.length = .slice (some ⟨b, o, none⟩) 1 c ∧ 1 ≤ c ∧ w.cell? ⟨b, o, none⟩ = some (.int .i64 t) ∧ b < w.heap.size := by
  rw [Ty.erase_eq] at he
  injection he with h1 h2 h3 h4 h5
  have hl : u.xs.length = 1 := by have := congrArg List.length h5; simpa using this
  refine ⟨h1, ?_⟩
  obtain ⟨p, c, e, h⟩ := titems_at hu
  obtain ⟨b, o, rfl, hp, hc⟩ := h 0 (by omega)
  refine ⟨b, o, c, by rw [e, hl], by omega, ?_, hp.2.1⟩
  have h0 := hp.c0
  have hk : u.xs[0].k = t := by
    have h6 : (u.xs.map Ty.erase)[0]? = some (Ty.of t) := by rw [h5]; rfl
    rw [List.getElem?_map, List.getElem?_eq_getElem (by omega)] at h6
    simp only [Option.map_some, Option.some.injEq] at h6
    rw [Ty.erase_eq] at h6
    injection h6 with h6
  rw [hk] at h0
  simpa using h0

set_option maxHeartbeats 8000000 in
set_option maxRecDepth 100000 in
theorem awake09_any (w : World) : Calls Tryz.prog 8 #[] w fun e w' => TrueBelow w e w' := by
  have H1 := Lib.hid ck1; have H2 := Lib.hid ck2; have H3 := Lib.hid ck3; have H4 := Lib.hid ck4; have H5 := Lib.hid ck5
  unfold tx1 at H1; unfold tx2 at H2; unfold tx3 at H3; unfold tx4 at H4; unfold tx5 at H5
  go_enter Tryz.func8, Tryz.ntmps8
  go_wp2_with fail
  refine (H1.out _).mono ?_
  rintro e w1 ⟨hb1, u, rfl, hue, hui, hus⟩
  obtain ⟨k4, l4, f4⟩ := hui.nslice
  obtain ⟨k5, l5, f5⟩ := hui.xslice
  have hk1 : u.k = 1 := by rw [Ty.erase_eq] at hue; injection hue
  unfold Ty.agg
  rw [f4, f5]
  obtain ⟨A1, hA1⟩ : ∃ A1, A1 = w1.heap.size := ⟨_, rfl⟩
  obtain ⟨W1, hW1⟩ : ∃ W1, W1 = w1.alloc (.cells #[.int .i64 u.k, .slice k4 u.ns.length l4, .slice k5 u.xs.length l5] 36) := ⟨_, rfl⟩
  have hB1 : Below w.heap.size w W1 := by rw [hW1]; exact hb1.alloc hb1.size _
  have hbk1 : Blk W1 A1 36 #[.int .i64 u.k, .slice k4 u.ns.length l4, .slice k5 u.xs.length l5] := by rw [hW1, hA1]; exact Blk.new w1 36 _
  have c1 := hbk1.cell 0
  simp at c1
  rw [hk1] at c1
  have HB1 := Lib.hid hB1; have C1 := Lib.hid c1; have L1 := Lib.hid hbk1.lt; have HW1 := Lib.hid hW1; have HA1 := Lib.hid hA1
  clear hb1 hue hui hus hk1 hA1 hW1 hB1 hbk1 c1 f4 f5
  go_upto_region 2 with fail
  rw [← HW1.out, ← HA1.out]
  go_wp2_with fail
  refine (H2.out _).mono ?_
  rintro e w2 ⟨hb2, v, rfl, hve, hvi, hvs⟩
  obtain ⟨m4, n4, g4⟩ := hvi.nslice
  obtain ⟨hvk, b2, o2, q2, g5, hq2, hc2, hl2⟩ := list_cells hvi hve
  unfold Ty.agg
  rw [g4, g5]
  obtain ⟨A2, hA2⟩ : ∃ A2, A2 = w2.heap.size := ⟨_, rfl⟩
  obtain ⟨W2, hW2⟩ : ∃ W2, W2 = w2.alloc (.cells #[.int .i64 v.k, .slice m4 v.ns.length n4, .slice (some ⟨b2, o2, none⟩) 1 q2] 36) := ⟨_, rfl⟩
  have hx2 : Below w2.heap.size w2 W2 := by rw [hW2]; exact (Below.refl _ w2).alloc (Nat.le_refl _) _
  have hy2 : Below W1.heap.size W1 W2 := hb2.trans (hx2.mono hb2.size)
  have hB2 : Below w.heap.size w W2 := HB1.out.trans (hy2.mono HB1.out.size)
  have hbk2 : Blk W2 A2 36 #[.int .i64 v.k, .slice m4 v.ns.length n4, .slice (some ⟨b2, o2, none⟩) 1 q2] := by rw [hW2, hA2]; exact Blk.new w2 36 _
  have c20 := hbk2.cell 0; have c22 := hbk2.cell 2
  simp at c20 c22
  rw [hvk] at c20
  have c2x := (hx2.cell (p := ⟨b2, o2, none⟩) hl2).trans hc2
  have hl2' : b2 < W2.heap.size := Nat.lt_of_lt_of_le hl2 hx2.size
  have C12 := Lib.hid ((hy2.cell (p := ⟨A1, 0, none⟩) L1.out).trans C1.out); have L12 := Lib.hid (Nat.lt_of_lt_of_le L1.out hy2.size)
  have HB2 := Lib.hid hB2; have C20 := Lib.hid c20; have C22 := Lib.hid c22; have C2X := Lib.hid c2x; have L2X := Lib.hid hl2'; have L2 := Lib.hid hbk2.lt; have HW2 := Lib.hid hW2; have HA2 := Lib.hid hA2
  clear hb2 hve hvi hvs hvk hA2 hW2 hx2 hy2 hB2 hbk2 c20 c22 c2x hl2 hl2' hc2 g4 g5 C1 L1 HB1 HW1
  go_upto_region 3 with fail
  rw [← HW2.out, ← HA2.out]
  go_wp2_with fail
  refine (H3.out _).mono ?_
  rintro e w3 ⟨hb3, rfl⟩
  rw [show Ty.zero.agg = .agg #[.int .i64 0, .slice none 0 0, .slice none 0 0] from rfl]
  obtain ⟨W3, hW3⟩ : ∃ W3, W3 = w3.alloc (.cells #[.int .i64 0, .slice none 0 0, .slice none 0 0] 36) := ⟨_, rfl⟩
  have hy3 : Below W2.heap.size W2 W3 := by rw [hW3]; exact hb3.alloc hb3.size _
  have HY3 := Lib.hid hy3; have HW3 := Lib.hid hW3
  clear hb3 hW3 hy3
  go_upto_region 4 with fail
  rw [← HW3.out]
  go_wp2_with fail
  refine (H4.out _).mono ?_
  rintro e w4 ⟨hb4, rfl⟩
  rw [show Ty.zero.agg = .agg #[.int .i64 0, .slice none 0 0, .slice none 0 0] from rfl]
  obtain ⟨W4, hW4⟩ : ∃ W4, W4 = w4.alloc (.cells #[.int .i64 0, .slice none 0 0, .slice none 0 0] 36) := ⟨_, rfl⟩
  have hy4 : Below W2.heap.size W2 W4 := by rw [hW4]; exact HY3.out.trans ((hb4.alloc hb4.size _).mono HY3.out.size)
  have HY4 := Lib.hid hy4; have HW4 := Lib.hid hW4
  clear hb4 hW4 hy4
  go_upto_region 5 with fail
  rw [← HW4.out]
  go_wp2_with fail
  refine (H5.out _).mono ?_
  rintro e w5 ⟨hb5, x, rfl, hxe, hxi, hxs⟩
  obtain ⟨r4, s4, t4⟩ := hxi.nslice
  obtain ⟨hxk, b5, o5, q5, t5, hq5, hc5, hl5⟩ := list_cells hxi hxe
  unfold Ty.agg
  rw [t4, t5]
  obtain ⟨A5, hA5⟩ : ∃ A5, A5 = w5.heap.size := ⟨_, rfl⟩
  obtain ⟨W5, hW5⟩ : ∃ W5, W5 = w5.alloc (.cells #[.int .i64 x.k, .slice r4 x.ns.length s4, .slice (some ⟨b5, o5, none⟩) 1 q5] 36) := ⟨_, rfl⟩
  have hx5 : Below w5.heap.size w5 W5 := by rw [hW5]; exact (Below.refl _ w5).alloc (Nat.le_refl _) _
  have hy5 : Below W2.heap.size W2 W5 := HY4.out.trans ((hb5.trans (hx5.mono hb5.size)).mono HY4.out.size)
  have HB5 := Lib.hid (HB2.out.trans (hy5.mono HB2.out.size))
  have hbk5 : Blk W5 A5 36 #[.int .i64 x.k, .slice r4 x.ns.length s4, .slice (some ⟨b5, o5, none⟩) 1 q5] := by rw [hW5, hA5]; exact Blk.new w5 36 _
  have c52 := hbk5.cell 2
  simp at c52
  have c5x := (hx5.cell (p := ⟨b5, o5, none⟩) hl5).trans hc5
  have c12 := (hy5.cell (p := ⟨A1, 0, none⟩) L12.out).trans C12.out
  have c20 := (hy5.cell (p := ⟨A2, 0, none⟩) L2.out).trans C20.out
  have c22 := (hy5.cell (p := ⟨A2, 2, none⟩) L2.out).trans C22.out
  have c2x := (hy5.cell (p := ⟨b2, o2, none⟩) L2X.out).trans C2X.out
  have HW5 := Lib.hid hW5; have HA5 := Lib.hid hA5
  clear hb5 hxe hxi hxs hxk hA5 hW5 hx5 hy5 hbk5 hl5 hc5 t4 t5
  go_upto_region 6 with fail
  rw [← HW5.out, ← HA5.out]
  try simp only [lapp_cons, lapp_nil]
  go_wp2_with fail
  go_ret
  exact ⟨rfl, HB5.out⟩
end Go.Proofs.YtjpdbhhjlnmacaaGreat

/- basculeref09.Is of any two types. -/
namespace Go.Proofs.YtjpdbhhjlnmacaaGreat
set_option linter.unusedVariables false
open Go.RowKit

end Go.Proofs.YtjpdbhhjlnmacaaGreat
