/- Any expression, with any variables, has the type that the document says, or the error. No conditions (printed by wip/gen_typescheck.py). -/
import Derived.Test.YtjpdbhhjlnmacaaGreatTcM53
import Derived.Test.YtjpdbhhjlnmacaaGreatTcM46
import Derived.BigQuiet
namespace Go.Proofs.YtjpdbhhjlnmacaaGreat.typesCheck
set_option linter.unusedVariables false
open Go.RowKit Go.ChangeShapes Go.WideShapes

theorem cells3 {W : World} {Q : Nat} {T : TypeId} {v0 v1 v2 : Value} (h : Blk W Q T #[v0, v1, v2]) : ∀ W', Below W.heap.size W W' → W'.cell? ⟨Q, 0, none⟩ = some v0 ∧ W'.cell? ⟨Q, 1, none⟩ = some v1 ∧ W'.cell? ⟨Q, 2, none⟩ = some v2 := fun W' hb =>
  ⟨(h.below hb h.lt).cell 0, (h.below hb h.lt).cell 1, (h.below hb h.lt).cell 2⟩

theorem may_no {x : Exp} {vs : List Var} {T : Ty} {k : Int} (h : mayB x vs = false) (hc : CAns x vs T k) : k = 2 ∧ T.erase = Ty.zero := by
  have he : checkF x vs = .error 2 := by
    unfold checkF
    unfold mayB at h
    rw [h]
    rfl
  rcases hc with ⟨h1, h2⟩ | ⟨h1, h2, h3⟩
  · rw [he] at h2; cases h2
  · rw [he] at h2; injection h2 with h2; exact ⟨h2.symm, h3⟩
theorem may_yes {x : Exp} {vs : List Var} {T U : Ty} {k l : Int} (h : mayB x vs = true) (hc : CAns x vs T k) (hu : (l = 0 ∧ checkP vs x = .ok U.erase) ∨ (l ≠ 0 ∧ checkP vs x = .error l ∧ U.erase = Ty.zero)) : l = k ∧ T.erase = U.erase := by
  have he : checkF x vs = checkP vs x := by
    unfold checkF
    unfold mayB at h
    rw [h]
    rfl
  rcases hc with ⟨h1, h2⟩ | ⟨h1, h2, h3⟩ <;> rcases hu with ⟨g1, g2⟩ | ⟨g1, g2, g3⟩
  · rw [he, g2] at h2; injection h2 with h2; exact ⟨by rw [h1, g1], h2.symm⟩
  · rw [he, g2] at h2; cases h2
  · rw [he, g2] at h2; cases h2
  · rw [he, g2] at h2; injection h2 with h2; exact ⟨h2, by rw [h3, g3]⟩
set_option maxHeartbeats 16000000 in
set_option maxRecDepth 100000 in
theorem law_any (x : Exp) (vs : List Var) (vp : Option Addr) (vc : Nat) (w : World) (hx : x.In w) (hv : VarsIn w vp vc vs) : Calls Tryz.prog 3 #[x.agg, .slice vp vs.length vc] w fun e w' => TrueBelow w e w' := by
  obtain ⟨W, hW⟩ : ∃ W, W = w.alloc (.cells #[.int .i64 x.k, .string x.s, .int .i64 x.v.k, .int .i64 x.v.n, .float .f64 x.v.f, .string x.v.s, x.v.na.val x.v.ns.length, x.v.xa.val x.v.xs.length, x.na.val x.ns.length, x.xa.val x.xs.length] 29) := ⟨_, rfl⟩
  have hBW : Below w.heap.size w W := by rw [hW]; exact ((Below.refl _ w).alloc (by simp; try omega) _)
  have bk_x : Blk W (w.heap.size) 29 #[.int .i64 x.k, .string x.s, .int .i64 x.v.k, .int .i64 x.v.n, .float .f64 x.v.f, .string x.v.s, x.v.na.val x.v.ns.length, x.v.xa.val x.v.xs.length, x.na.val x.ns.length, x.xa.val x.xs.length] := by
    have h0 := Blk.new w 29 #[.int .i64 x.k, .string x.s, .int .i64 x.v.k, .int .i64 x.v.n, .float .f64 x.v.f, .string x.v.s, x.v.na.val x.v.ns.length, x.v.xa.val x.v.xs.length, x.na.val x.ns.length, x.xa.val x.xs.length]
    rw [hW]
    exact h0
  obtain ⟨xa6, xb6, xf6⟩ := hx.val.nslice
  obtain ⟨xa7, xb7, xf7⟩ := hx.val.xslice
  obtain ⟨xa8, xb8, xf8⟩ := hx.nslice
  obtain ⟨xa9, xb9, xf9⟩ := hx.xslice
  obtain ⟨A, hA⟩ : ∃ A, A = w.heap.size := ⟨_, rfl⟩
  rw [← hA] at bk_x
  rw [xf6, xf7, xf8, xf9] at bk_x hW
  have HC_x := Lib.hid (cells10 bk_x)
  have IN_x := Lib.hid (fun (W' : World) (h : Below W.heap.size W W') => (hx.below hBW).below h)
  have AG_x : Hid (x.agg = .agg #[.int .i64 x.k, .string x.s, .int .i64 x.v.k, .int .i64 x.v.n, .float .f64 x.v.f, .string x.v.s, .slice xa6 x.v.ns.length xb6, .slice xa7 x.v.xs.length xb7, .slice xa8 x.ns.length xb8, .slice xa9 x.xs.length xb9]) := Lib.hid (by unfold Exp.agg; rw [xf6, xf7, xf8, xf9])
  rw [AG_x.out]
  have BR_W := Lib.hid (Below.refl W.heap.size W)
  have hvW := hv.below hBW
  have HW := Lib.hid hW; have HA := Lib.hid hA; have HBW := Lib.hid hBW
  clear hv hW hA hBW bk_x xf6 xf7 xf8 xf9 hx
  have HAW := Lib.hid awake09_any
  have HV := Lib.hid (fun (W' : World) (h : Below W.heap.size W W') => hvW.below h)
  clear hvW
  have hsf := run_store_flt
  have AG_z : Hid (Ty.zero.agg = .agg #[.int .i64 0, .slice none 0 0, .slice none 0 0]) := Lib.hid rfl
  go_enter Tryz.func3, Tryz.ntmps3
  go_upto_region 1 with fail
  rw [← HW.out, ← HA.out]
  have hcc := HAW.out W
  have CC := Lib.hid hcc
  clear hcc
  go_wp2_with fail
  refine CC.out.mono ?_
  rintro e w1 ⟨rfl, hb⟩
  have B2_W := Lib.hid (BR_W.out.trans (hb.mono BR_W.out.size))
  clear CC hb
  have hcc := xsmall_any x.sz x w1 (Nat.le_refl _) (IN_x.out _ B2_W.out)
  rw [AG_x.out] at hcc
  have CC := Lib.hid hcc
  clear hcc
  obtain ⟨x0_, x1_, x2_, x3_, x4_, x5_, x6_, x7_, x8_, x9_⟩ := HC_x.out _ B2_W.out
  go_wp2_with fail
  refine CC.out.mono ?_
  rintro e w3 ⟨rfl, hb⟩
  clear x0_ x1_ x2_ x3_ x4_ x5_ x6_ x7_ x8_ x9_
  have B4_W := Lib.hid (B2_W.out.trans (hb.mono B2_W.out.size))
  clear CC hb
  cases hr : x.smallB with
  | false =>
    clear hr
    have hcc := HAW.out w3
    have CC := Lib.hid hcc
    clear hcc
    go_wp2_with fail
    refine CC.out.mono ?_
    rintro e w5 ⟨rfl, hb⟩
    have B6_W := Lib.hid (B4_W.out.trans (hb.mono B4_W.out.size))
    clear CC hb
    go_wp2_with fail
    go_ret
    exact ⟨rfl, HBW.out.trans (B6_W.out.mono HBW.out.size)⟩
  | true =>
  clear hr
  have hcc := vsmall_any vs vp vc w3 (HV.out _ B4_W.out)
  have CC := Lib.hid hcc
  clear hcc
  go_wp2_with fail
  refine CC.out.mono ?_
  rintro e w7 ⟨rfl, hb⟩
  have B8_W := Lib.hid (B4_W.out.trans (hb.mono B4_W.out.size))
  clear CC hb
  cases hr : varsSmallB vs with
  | false =>
    clear hr
    have hcc := HAW.out w7
    have CC := Lib.hid hcc
    clear hcc
    go_wp2_with fail
    refine CC.out.mono ?_
    rintro e w9 ⟨rfl, hb⟩
    have B10_W := Lib.hid (B8_W.out.trans (hb.mono B8_W.out.size))
    clear CC hb
    go_wp2_with fail
    go_ret
    exact ⟨rfl, HBW.out.trans (B10_W.out.mono HBW.out.size)⟩
  | true =>
  have HSM := Lib.hid hr
  clear hr
  obtain ⟨i0, hi0, hz0, hz1, hz2⟩ := info_parts var_facts
  have hvn : vs.length ≤ 40 := by have h := HSM.out; unfold varsSmallB at h; simp only [Bool.and_eq_true, decide_eq_true_eq] at h; exact h.2
  have hvU := (HV.out _ B8_W.out)
  have hxU := (IN_x.out _ B8_W.out)
  obtain ⟨x0_, x1_, x2_, x3_, x4_, x5_, x6_, x7_, x8_, x9_⟩ := HC_x.out _ B8_W.out
  have hck := fun (W' : World) (pp : Option Addr) (cc : Nat) (hb : Below w7.heap.size w7 W') (hv : VarsIn W' pp cc vs) => checked_sep x vs pp cc W' (hxU.below hb) hv
  rw [AG_x.out] at hck
  have HCK := Lib.hid hck; have HVU := Lib.hid hvU
  have HO1 := Lib.hid (World.ownsRow_made (base := w7.heap.size) (e := 56) (size := 11) w7.drew #[] 0 (Nat.le_refl _) (by unfold maxLen; omega) rfl)
  have HO2 := Lib.hid (show ((w7.drew.alloc (.cells #[.int .i64 0, .slice none 0 0, .slice none 0 0] 36)).alloc (.cells #[] 56)).ownsRow w7.heap.size 56 11 (.slice (some ⟨w7.heap.size + 1, 0, none⟩) 0 0) 0 [] from by have h := World.ownsRow_made (base := w7.heap.size) (e := 56) (size := 11) (w7.drew.alloc (.cells #[.int .i64 0, .slice none 0 0, .slice none 0 0] 36)) #[] 0 (by simp) (by unfold maxLen; omega) rfl; rw [show (w7.drew.alloc (.cells #[.int .i64 0, .slice none 0 0, .slice none 0 0] 36)).heap.size = w7.heap.size + 1 from by simp] at h; exact h)
  have HO3 := Lib.hid (HO1.out.alloc (.cells #[.int .i64 0, .slice none 0 0, .slice none 0 0] 36))
  have HR1 := Lib.hid (hvU.reads.drew.alloc (Nat.le_refl _) (.cells #[] 56))
  have HR2 := Lib.hid ((hvU.reads.drew.alloc (Nat.le_refl _) (.cells #[.int .i64 0, .slice none 0 0, .slice none 0 0] 36)).alloc (by simp) (.cells #[] 56))
  have HR3 := Lib.hid ((hvU.reads.drew.alloc (Nat.le_refl _) (.cells #[] 56)).alloc (by simp) (.cells #[.int .i64 0, .slice none 0 0, .slice none 0 0] 36))
  have HB1 := Lib.hid ((Below.refl w7.heap.size w7).drew.alloc (Nat.le_refl _) (.cells #[] 56))
  have HB2 := Lib.hid (((Below.refl w7.heap.size w7).drew.alloc (Nat.le_refl _) (.cells #[.int .i64 0, .slice none 0 0, .slice none 0 0] 36)).alloc (by simp) (.cells #[] 56))
  have HB3 := Lib.hid (((Below.refl w7.heap.size w7).drew.alloc (Nat.le_refl _) (.cells #[] 56)).alloc (by simp) (.cells #[.int .i64 0, .slice none 0 0, .slice none 0 0] 36))
  have hAU : A < w7.heap.size := cell_lt x0_
  clear hck hvU hxU
  go_upto_region 3 with fail
  go_cut [5, 6] (fun p q wx => CItem w7 x vs p q wx)
  case first =>
    go_region_law (first
      | (refine step_append_any (w := w7.drew.alloc (.cells #[] 56)) rfl (.tmp 24) (.tmp 25) 30 rfl w7.heap.size 56 i0 (.agg #[.string ByteArray.empty, .int .i64 0, .int .i64 0, .slice none 0 0, .slice none 0 0, .int .i64 0, .int .i64 0, .float .f64 0, .string ByteArray.empty, .slice none 0 0, .slice none 0 0]) 11 168 Tryz.underlying30 hi0 hz0 hz1 hz2 rfl (by decide) (.slice (some ⟨w7.drew.heap.size, 0, none⟩) 0 0) 0 [] rfl HO1.out w7.heap.size vp vs.length vc (varE.row vs) rfl HR1.out (varE_one vs) (by unfold maxLen; omega) (by omega) (by simp <;> omega) ?_; intro v' w' hown' hgrow hor; obtain ⟨pp, cc, rfl, hvc, hbc⟩ := copy_done HVU.out HB1.out (fun k hk => own_ge HO1.out hk) hown' hgrow; have HVC := Lib.hid hvc; have HBC := Lib.hid hbc; obtain ⟨q0, q1, q2, q3, q4, q5, q6, q7, q8, q9⟩ := HC_x.out w' (B8_W.out.trans (hbc.mono B8_W.out.size)); have hAw := Nat.lt_of_lt_of_le hAU hbc.size; clear hown' hgrow hor hvc hbc)
      | (refine step_append_any (w := (w7.drew.alloc (.cells #[.int .i64 0, .slice none 0 0, .slice none 0 0] 36)).alloc (.cells #[] 56)) rfl (.tmp 24) (.tmp 25) 30 rfl w7.heap.size 56 i0 (.agg #[.string ByteArray.empty, .int .i64 0, .int .i64 0, .slice none 0 0, .slice none 0 0, .int .i64 0, .int .i64 0, .float .f64 0, .string ByteArray.empty, .slice none 0 0, .slice none 0 0]) 11 168 Tryz.underlying30 hi0 hz0 hz1 hz2 rfl (by decide) (.slice (some ⟨w7.heap.size + 1, 0, none⟩) 0 0) 0 [] rfl HO2.out w7.heap.size vp vs.length vc (varE.row vs) rfl HR2.out (varE_one vs) (by unfold maxLen; omega) (by omega) (by simp <;> omega) ?_; intro v' w' hown' hgrow hor; obtain ⟨pp, cc, rfl, hvc, hbc⟩ := copy_done HVU.out HB2.out (fun k hk => own_ge HO2.out hk) hown' hgrow; have HVC := Lib.hid hvc; have HBC := Lib.hid hbc; obtain ⟨q0, q1, q2, q3, q4, q5, q6, q7, q8, q9⟩ := HC_x.out w' (B8_W.out.trans (hbc.mono B8_W.out.size)); have hAw := Nat.lt_of_lt_of_le hAU hbc.size; have HX : Hid (Blk w' w7.heap.size 36 #[.int .i64 0, .slice none 0 0, .slice none 0 0]) := Lib.hid (((Blk.new w7.drew 36 #[.int .i64 0, .slice none 0 0, .slice none 0 0]).alloc (.cells #[] 56)).grown hgrow (fun e => by have h : w7.heap.size = w7.heap.size + 1 := Option.some.inj e; omega)); clear hown' hgrow hor hvc hbc)
      | (refine step_append_any (w := (w7.drew.alloc (.cells #[] 56)).alloc (.cells #[.int .i64 0, .slice none 0 0, .slice none 0 0] 36)) rfl (.tmp 24) (.tmp 25) 30 rfl w7.heap.size 56 i0 (.agg #[.string ByteArray.empty, .int .i64 0, .int .i64 0, .slice none 0 0, .slice none 0 0, .int .i64 0, .int .i64 0, .float .f64 0, .string ByteArray.empty, .slice none 0 0, .slice none 0 0]) 11 168 Tryz.underlying30 hi0 hz0 hz1 hz2 rfl (by decide) (.slice (some ⟨w7.drew.heap.size, 0, none⟩) 0 0) 0 [] rfl HO3.out w7.heap.size vp vs.length vc (varE.row vs) rfl HR3.out (varE_one vs) (by unfold maxLen; omega) (by omega) (by simp <;> omega) ?_; intro v' w' hown' hgrow hor; obtain ⟨pp, cc, rfl, hvc, hbc⟩ := copy_done HVU.out HB3.out (fun k hk => own_ge HO3.out hk) hown' hgrow; have HVC := Lib.hid hvc; have HBC := Lib.hid hbc; obtain ⟨q0, q1, q2, q3, q4, q5, q6, q7, q8, q9⟩ := HC_x.out w' (B8_W.out.trans (hbc.mono B8_W.out.size)); have hAw := Nat.lt_of_lt_of_le hAU hbc.size; have HX : Hid (Blk w' (w7.heap.size + 1) 36 #[.int .i64 0, .slice none 0 0, .slice none 0 0]) := Lib.hid ((show Blk ((w7.drew.alloc (.cells #[] 56)).alloc (.cells #[.int .i64 0, .slice none 0 0, .slice none 0 0] 36)) (w7.heap.size + 1) 36 #[.int .i64 0, .slice none 0 0, .slice none 0 0] from by have h := Blk.new (w7.drew.alloc (.cells #[] 56)) 36 #[.int .i64 0, .slice none 0 0, .slice none 0 0]; simpa using h).grown hgrow (fun e => by have h : w7.heap.size + 1 = w7.heap.size := Option.some.inj e; omega)); clear hown' hgrow hor hvc hbc)
      | (go_simp; go_at_call 11; have hX0 := HX.out; refine (HCK.out w' pp cc HBC.out HVC.out).mono ?_; rintro e w6 ⟨T, k, rfl, hTi, hTs, hca, hb6⟩; obtain ⟨a4, b4, k4⟩ := hTi.nslice; obtain ⟨a5, b5, k5⟩ := hTi.xslice; unfold Ty.agg; rw [k4, k5]; have hbX := hX0.below hb6 hX0.lt; have z0 := hbX.cell 0; have z1 := hbX.cell 1; have z2 := hbX.cell 2; have y0 := hbX.frozen 0; have y1 := hbX.frozen 1; have y2 := hbX.frozen 2; simp at z0 z1 z2; have HFIN := Lib.hid (citem_set (HBC.out.trans (hb6.mono HBC.out.size)) (by omega) hbX k4 k5 hTi (hTs.mono (fun b hb => by have := hX0.lt; omega)) hca); clear hbX hX0 hTi hTs hca hb6 k4 k5)
      | (go_simp; go_at_call 11; refine (HCK.out w' pp cc HBC.out HVC.out).mono ?_; rintro e w6 ⟨T, k, rfl, hTi, hTs, hca, hb6⟩; obtain ⟨a4, b4, k4⟩ := hTi.nslice; obtain ⟨a5, b5, k5⟩ := hTi.xslice; unfold Ty.agg; rw [k4, k5]; have hbX := Blk.new w6 36 #[.int .i64 0, .slice none 0 0, .slice none 0 0]; have z0 := hbX.cell 0; have z1 := hbX.cell 1; have z2 := hbX.cell 2; have y0 := hbX.frozen 0; have y1 := hbX.frozen 1; have y2 := hbX.frozen 2; simp at z0 z1 z2; have HFIN := Lib.hid (citem_new (HBC.out.trans (hb6.mono HBC.out.size)) k4 k5 hTi hca); clear hbX hTi hTs hca hb6 k4 k5)
      | (go_simp; go_at_call 11; refine (HCK.out (w'.alloc (.cells #[.int .i64 0, .slice none 0 0, .slice none 0 0] 36)) pp cc (HBC.out.alloc HBC.out.size _) (HVC.out.below ((Below.refl _ _).alloc (Nat.le_refl _) _))).mono ?_; rintro e w6 ⟨T, k, rfl, hTi, hTs, hca, hb6⟩; obtain ⟨a4, b4, k4⟩ := hTi.nslice; obtain ⟨a5, b5, k5⟩ := hTi.xslice; unfold Ty.agg; rw [k4, k5]; have hX0 := Blk.new w' 36 #[.int .i64 0, .slice none 0 0, .slice none 0 0]; have hbX := hX0.below hb6 hX0.lt; have z0 := hbX.cell 0; have z1 := hbX.cell 1; have z2 := hbX.cell 2; have y0 := hbX.frozen 0; have y1 := hbX.frozen 1; have y2 := hbX.frozen 2; simp at z0 z1 z2; have HFIN := Lib.hid (citem_set ((HBC.out.alloc HBC.out.size _).trans (hb6.mono (by have := HBC.out.size; simp; omega))) HBC.out.size hbX k4 k5 hTi (hTs.mono (fun b hb => by have := hX0.lt; omega)) hca); clear hbX hX0 hTi hTs hca hb6 k4 k5)
      | fail)
    all_goals (go_wp2_with fail)
    all_goals go_meet
    all_goals exact HFIN.out
  case rest =>
  clear HCK HO1 HO2 HO3 HR1 HR2 HR3 HB1 HB2 HB3 HVU hAU x0_ x1_ x2_ x3_ x4_ x5_ x6_ x7_ x8_ x9_
  obtain ⟨Qt, t, kt, rfl, rfl, hbx, hbX, hin_t, hca⟩ := hcut
  obtain ⟨V2, hV2⟩ : ∃ V2 : World, V2 = wc := ⟨_, rfl⟩
  rw [← hV2] at hbx hbX hin_t ⊢
  obtain ⟨ta4, tb4, tf4⟩ := hin_t.nslice
  obtain ⟨ta5, tb5, tf5⟩ := hin_t.xslice
  rw [tf4, tf5] at hbX
  have HC_t := Lib.hid (cells3 hbX)
  have IN_t := Lib.hid (fun (W' : World) (h : Below V2.heap.size V2 W') => hin_t.below h)
  have AG_t : Hid (t.agg = .agg #[.int .i64 t.k, .slice ta4 t.ns.length tb4, .slice ta5 t.xs.length tb5]) := Lib.hid (by unfold Ty.agg; rw [tf4, tf5])
  have CA_t := Lib.hid hca
  have B11_W := Lib.hid (B8_W.out.trans (hbx.mono B8_W.out.size))
  have BR_V2 := Lib.hid (Below.refl V2.heap.size V2)
  clear hbx hbX hin_t hca tf4 tf5 hV2
  have hcc := may_any x vs vp vc V2 (IN_x.out _ B11_W.out) (HV.out _ B11_W.out)
  rw [AG_x.out] at hcc
  have CC := Lib.hid hcc
  clear hcc
  obtain ⟨x0_, x1_, x2_, x3_, x4_, x5_, x6_, x7_, x8_, x9_⟩ := HC_x.out _ B11_W.out
  go_wp2_with fail
  refine CC.out.mono ?_
  rintro e w12 ⟨rfl, hb⟩
  clear x0_ x1_ x2_ x3_ x4_ x5_ x6_ x7_ x8_ x9_
  have B13_W := Lib.hid (B11_W.out.trans (hb.mono B11_W.out.size))
  have B13_V2 := Lib.hid (BR_V2.out.trans (hb.mono BR_V2.out.size))
  clear CC hb
  cases hm : mayB x vs with
  | false =>
    obtain ⟨rfl, hte⟩ := may_no hm CA_t.out
    have HTE := Lib.hid hte
    clear hm hte CA_t
    have hcc := samet_any t.sz t Ty.zero w12 (Nat.le_refl _) (IN_t.out _ B13_V2.out) (tzero_in _)
    rw [AG_t.out, AG_z.out] at hcc
    have CC := Lib.hid hcc
    clear hcc
    obtain ⟨t0_, t1_, t2_⟩ := HC_t.out _ B13_V2.out
    go_wp2_with fail
    refine CC.out.mono ?_
    rintro e w14 ⟨rfl, hb⟩
    clear t0_ t1_ t2_
    have B15_W := Lib.hid (B13_W.out.trans (hb.mono B13_W.out.size))
    have B15_V2 := Lib.hid (B13_V2.out.trans (hb.mono B13_V2.out.size))
    clear CC hb
    rw [Ty.sameB_of (show t.erase = Ty.zero.erase by rw [HTE.out]; rfl)]
    go_wp2_with fail
    go_ret
    exact ⟨rfl, HBW.out.trans (B15_W.out.mono HBW.out.size)⟩
  | true =>
    have HM := Lib.hid hm
    clear hm
    have hcc := rcheck_both x vs vp vc w12 (IN_x.out _ B13_W.out) (HV.out _ B13_W.out) (by have h := HM.out; unfold mayB at h; rw [Bool.and_eq_true] at h; exact h.2)
    rw [AG_x.out] at hcc
    have CC := Lib.hid hcc
    clear hcc
    obtain ⟨x0_, x1_, x2_, x3_, x4_, x5_, x6_, x7_, x8_, x9_⟩ := HC_x.out _ B13_W.out
    go_wp2_with fail
    refine CC.out.mono ?_
    rintro e w16 ⟨u, ku, rfl, hin_u, hans_u, hb⟩
    clear x0_ x1_ x2_ x3_ x4_ x5_ x6_ x7_ x8_ x9_
    have B17_W := Lib.hid (B13_W.out.trans (hb.mono B13_W.out.size))
    have B17_V2 := Lib.hid (B13_V2.out.trans (hb.mono B13_V2.out.size))
    clear CC hb
    obtain ⟨hku, hte⟩ := may_yes HM.out CA_t.out hans_u
    subst hku
    have HTE := Lib.hid hte
    clear hans_u hte CA_t
    obtain ⟨ua4, ub4, uf4⟩ := hin_u.nslice
    obtain ⟨ua5, ub5, uf5⟩ := hin_u.xslice
    obtain ⟨W18, hWk⟩ : ∃ X, X = w16.alloc (.cells #[.int .i64 u.k, .slice ua4 u.ns.length ub4, .slice ua5 u.xs.length ub5] 36) := ⟨_, rfl⟩
    obtain ⟨Qu, hQk⟩ : ∃ X, X = w16.heap.size := ⟨_, rfl⟩
    have hbk : Below w16.heap.size w16 W18 := by rw [hWk]; exact (Below.refl _ _).alloc (Nat.le_refl _) _
    have hblk : Blk W18 Qu 36 #[.int .i64 u.k, .slice ua4 u.ns.length ub4, .slice ua5 u.xs.length ub5] := by rw [hWk, hQk]; exact Blk.new w16 36 _
    have HC_u := Lib.hid (cells3 hblk)
    have IN_u := Lib.hid (fun (W' : World) (h : Below W18.heap.size W18 W') => (hin_u.below hbk).below h)
    have AG_u : Hid (u.agg = .agg #[.int .i64 u.k, .slice ua4 u.ns.length ub4, .slice ua5 u.xs.length ub5]) := Lib.hid (by unfold Ty.agg; rw [uf4, uf5])
    rw [AG_u.out]
    have HWk := Lib.hid hWk; have HQk := Lib.hid hQk
    have B19_W := Lib.hid (B17_W.out.trans (hbk.mono B17_W.out.size))
    have B19_V2 := Lib.hid (B17_V2.out.trans (hbk.mono B17_V2.out.size))
    have BR_W18 := Lib.hid (Below.refl W18.heap.size W18)
    clear hblk hbk hWk hQk uf4 uf5 hin_u
    go_upto_region 7 with fail
    rw [← HWk.out, ← HQk.out]
    clear HWk HQk
    have hcc := samet_any t.sz t u W18 (Nat.le_refl _) (IN_t.out _ B19_V2.out) (IN_u.out _ BR_W18.out)
    rw [AG_t.out, AG_u.out] at hcc
    have CC := Lib.hid hcc
    clear hcc
    obtain ⟨t0_, t1_, t2_⟩ := HC_t.out _ B19_V2.out
    obtain ⟨u0_, u1_, u2_⟩ := HC_u.out _ BR_W18.out
    go_wp2_with fail
    refine CC.out.mono ?_
    rintro e w20 ⟨rfl, hb⟩
    clear t0_ t1_ t2_ u0_ u1_ u2_
    have B21_W := Lib.hid (B19_W.out.trans (hb.mono B19_W.out.size))
    have B21_V2 := Lib.hid (B19_V2.out.trans (hb.mono B19_V2.out.size))
    have B21_W18 := Lib.hid (BR_W18.out.trans (hb.mono BR_W18.out.size))
    clear CC hb
    rw [Ty.sameB_of HTE.out]
    go_wp2_with fail
    go_ret
    exact ⟨rfl, HBW.out.trans (B21_W.out.mono HBW.out.size)⟩

set_option maxRecDepth 100000 in
theorem walk {H : Type} {enc : TypeId × Value → H} {W : World} {base : Nat} {args : Array Value} {ds : List (DataW H)} {ps : List MemPlace}
    (h : Handed enc Tryz.prog W base Tryz.f3.params.toList args ds ps) : Calls Tryz.prog 3 args W fun e w' => TrueBelow W e w' := by
  rw [Tryz.params3] at h
  have hval := h.val
  obtain ⟨v0, vs0, d0, ds0, p0, q0, hargs, rfl, rfl, h0, r0⟩ := trodAll_cons h.trod
  obtain ⟨v1, vs1, d1, ds1, p1, q1, rfl, rfl, rfl, h1, r1⟩ := trodAll_cons r0
  obtain ⟨rfl, rfl, rfl⟩ := trodAll_nil r1
  obtain rfl : args = #[v0, v1] := by cases args; simp_all
  have hv0 := hval 0 29 v0 rfl rfl
  unfold Value.okWide at hv0
  rw [Tryz.underlying29] at hv0
  obtain ⟨cs0, he0, _⟩ := hv0
  obtain ⟨x, rfl, hx⟩ := arg_exp he0 h0 0 h.fits rfl rfl
  obtain ⟨vs, pvs, cvs, rfl, hvs⟩ := arg_vars (hval 1 30 v1 rfl rfl) h1 1 h.fits rfl rfl
  exact law_any x vs pvs cvs W hx hvs


set_option maxRecDepth 100000 in
theorem lifted (os : Os) (started : os.Started) (H : Type) (enc : TypeId × Value → H) :
    ReturnsInHanded {} Tryz.checked os 3 .any (Rows.typesCheckSpec.pre6 enc Tryz.prog Tryz.f3 Rows.typesCheckRow.domain false) (Rows.typesCheckSpec.post enc Tryz.prog Tryz.f3 false true false false) := by
  refine returnsInHanded_of_change_sized (C := Tryz.checked) own started (by kernel_rfl) Tryz.func3
    (ChangeSpec.witness6 (enc := enc) (C := Tryz.checked) false ⟨#[], #[.agg #[.int .i64 0, .string ByteArray.empty, .int .i64 0, .int .i64 0, .float .f64 0, .string ByteArray.empty, .slice none 0 0, .slice none 0 0, .slice none 0 0, .slice none 0 0], .slice none 0 0], []⟩ 8 (by kernel_rfl) (by kernel_rfl) (by kernel_rfl) (by kernel_rfl)) ?_
  intro W base args ds gs before hval hW _ hsz _
  refine (walk (handed_of hval hW rfl rfl hsz)).mono fun e W' ⟨he, hb⟩ => ?_
  subst he
  exact ⟨_, rfl, law_post hW rfl laidOut (by kernel_rfl) rfl Tryz.underlying4 (fun ds' h => by match ds', h with | [_, _], _ => rfl) hb⟩

theorem over : Rows.typesCheckRow.holds Tryz.pinned (OpenSpec.ofChange Rows.typesCheckSpec) :=
  OpenClaim.holds_of_wide 3 Tryz.f3 rfl rfl rfl rfl rfl rfl rfl ⟨rfl, rfl, rfl, rfl, rfl⟩ rfl rfl rfl rfl rfl (by kernel_rfl) Tryz.func3 (by kernel_rfl)
    (of_decide_eq_true (by kernel_rfl)) (by unfold Func.isWrapper; first | (rw [if_pos (by decide +kernel)]; kernel_rfl) | (rw [if_neg (by decide +kernel)]; exact ⟨rfl, rfl⟩))
    (fun os started H enc _ => lifted os started H enc)

theorem proved : Rows.TypesCheckSaid :=
  over
#print axioms proved
end Go.Proofs.YtjpdbhhjlnmacaaGreat.typesCheck
