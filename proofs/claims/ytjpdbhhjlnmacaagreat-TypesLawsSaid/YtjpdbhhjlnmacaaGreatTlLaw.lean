/- Joins are the same in either order, and however three are put together; each type joined with itself is itself, and stands for what it joins to. No conditions. -/
import Derived.Test.YtjpdbhhjlnmacaaGreatTlM53
namespace Go.Proofs.YtjpdbhhjlnmacaaGreat.typesLaws
set_option linter.unusedVariables false
open Go.RowKit Go.ChangeShapes Go.WideShapes

theorem cells3 {W : World} {Q : Nat} {T : TypeId} {v0 v1 v2 : Value} (h : Blk W Q T #[v0, v1, v2]) : ∀ W', Below W.heap.size W W' → W'.cell? ⟨Q, 0, none⟩ = some v0 ∧ W'.cell? ⟨Q, 1, none⟩ = some v1 ∧ W'.cell? ⟨Q, 2, none⟩ = some v2 := fun W' hb =>
  ⟨(h.below hb h.lt).cell 0, (h.below hb h.lt).cell 1, (h.below hb h.lt).cell 2⟩

set_option maxHeartbeats 16000000 in
set_option maxRecDepth 100000 in
theorem law_any (a b c : Ty) (w : World) (ha : a.In w) (hb : b.In w) (hc : c.In w) : Calls Tryz.prog 6 #[a.agg, b.agg, c.agg] w fun e w' => TrueBelow w e w' := by
  obtain ⟨W, hW⟩ : ∃ W, W = ((w.alloc (.cells #[.int .i64 a.k, a.na.val a.ns.length, a.xa.val a.xs.length] 36)).alloc (.cells #[.int .i64 b.k, b.na.val b.ns.length, b.xa.val b.xs.length] 36)).alloc (.cells #[.int .i64 c.k, c.na.val c.ns.length, c.xa.val c.xs.length] 36) := ⟨_, rfl⟩
  have hBW : Below w.heap.size w W := by rw [hW]; exact ((((Below.refl _ w).alloc (by simp; try omega) _).alloc (by simp; try omega) _).alloc (by simp; try omega) _)
  have bk_a : Blk W (w.heap.size) 36 #[.int .i64 a.k, a.na.val a.ns.length, a.xa.val a.xs.length] := by
    have h0 := Blk.new w 36 #[.int .i64 a.k, a.na.val a.ns.length, a.xa.val a.xs.length]
    rw [hW]
    exact ((h0).alloc _).alloc _
  have bk_b : Blk W (w.heap.size + 1) 36 #[.int .i64 b.k, b.na.val b.ns.length, b.xa.val b.xs.length] := by
    have h0 := Blk.new (w.alloc (.cells #[.int .i64 a.k, a.na.val a.ns.length, a.xa.val a.xs.length] 36)) 36 #[.int .i64 b.k, b.na.val b.ns.length, b.xa.val b.xs.length]
    rw [show (w.alloc (.cells #[.int .i64 a.k, a.na.val a.ns.length, a.xa.val a.xs.length] 36)).heap.size = w.heap.size + 1 from by simp] at h0
    rw [hW]
    exact (h0).alloc _
  have bk_c : Blk W (w.heap.size + 1 + 1) 36 #[.int .i64 c.k, c.na.val c.ns.length, c.xa.val c.xs.length] := by
    have h0 := Blk.new ((w.alloc (.cells #[.int .i64 a.k, a.na.val a.ns.length, a.xa.val a.xs.length] 36)).alloc (.cells #[.int .i64 b.k, b.na.val b.ns.length, b.xa.val b.xs.length] 36)) 36 #[.int .i64 c.k, c.na.val c.ns.length, c.xa.val c.xs.length]
    rw [show ((w.alloc (.cells #[.int .i64 a.k, a.na.val a.ns.length, a.xa.val a.xs.length] 36)).alloc (.cells #[.int .i64 b.k, b.na.val b.ns.length, b.xa.val b.xs.length] 36)).heap.size = w.heap.size + 1 + 1 from by simp] at h0
    rw [hW]
    exact h0
  obtain ⟨aa4, ab4, af4⟩ := ha.nslice
  obtain ⟨aa5, ab5, af5⟩ := ha.xslice
  obtain ⟨ba4, bb4, bf4⟩ := hb.nslice
  obtain ⟨ba5, bb5, bf5⟩ := hb.xslice
  obtain ⟨ca4, cb4, cf4⟩ := hc.nslice
  obtain ⟨ca5, cb5, cf5⟩ := hc.xslice
  obtain ⟨A, hA⟩ : ∃ A, A = w.heap.size := ⟨_, rfl⟩
  rw [← hA] at bk_a bk_b bk_c
  rw [af4, af5] at bk_a hW
  rw [bf4, bf5] at bk_b hW
  rw [cf4, cf5] at bk_c hW
  have HC_a := Lib.hid (cells3 bk_a)
  have IN_a := Lib.hid (fun (W' : World) (h : Below W.heap.size W W') => (ha.below hBW).below h)
  have AG_a : Hid (a.agg = .agg #[.int .i64 a.k, .slice aa4 a.ns.length ab4, .slice aa5 a.xs.length ab5]) := Lib.hid (by unfold Ty.agg; rw [af4, af5])
  have HC_b := Lib.hid (cells3 bk_b)
  have IN_b := Lib.hid (fun (W' : World) (h : Below W.heap.size W W') => (hb.below hBW).below h)
  have AG_b : Hid (b.agg = .agg #[.int .i64 b.k, .slice ba4 b.ns.length bb4, .slice ba5 b.xs.length bb5]) := Lib.hid (by unfold Ty.agg; rw [bf4, bf5])
  have HC_c := Lib.hid (cells3 bk_c)
  have IN_c := Lib.hid (fun (W' : World) (h : Below W.heap.size W W') => (hc.below hBW).below h)
  have AG_c : Hid (c.agg = .agg #[.int .i64 c.k, .slice ca4 c.ns.length cb4, .slice ca5 c.xs.length cb5]) := Lib.hid (by unfold Ty.agg; rw [cf4, cf5])
  rw [AG_a.out, AG_b.out, AG_c.out]
  have BR_W := Lib.hid (Below.refl W.heap.size W)
  have HW := Lib.hid hW; have HA := Lib.hid hA; have HBW := Lib.hid hBW
  clear hW hA hBW bk_a af4 af5 ha bk_b bf4 bf5 hb bk_c cf4 cf5 hc
  have HAW := Lib.hid awake09_any
  go_enter Tryz.func6, Tryz.ntmps6
  go_upto_region 1 with fail
  rw [← HW.out, ← HA.out]
  have hcc := HAW.out W
  have CC := Lib.hid hcc
  clear hcc
  go_wp2_with fail
  refine CC.out.mono ?_
  rintro e w1 ⟨rfl, hb⟩
  have B2_W := Lib.hid (BR_W.out.trans (hb.mono BR_W.out.size))
  clear CC hb
  have hcc := rtrightf_any a w1 (IN_a.out _ B2_W.out)
  rw [AG_a.out] at hcc
  have CC := Lib.hid hcc
  clear hcc
  obtain ⟨a0_, a1_, a2_⟩ := HC_a.out _ B2_W.out
  go_wp2_with fail
  refine CC.out.mono ?_
  rintro e w3 ⟨rfl, hb⟩
  clear a0_ a1_ a2_
  have B4_W := Lib.hid (B2_W.out.trans (hb.mono B2_W.out.size))
  clear CC hb
  cases hra : a.RightB with
  | false =>
    clear hra
    have hcc := HAW.out w3
    have CC := Lib.hid hcc
    clear hcc
    go_wp2_with fail
    refine CC.out.mono ?_
    rintro e w5 ⟨rfl, hb⟩
    have B6_W := Lib.hid (B4_W.out.trans (hb.mono B4_W.out.size))
    clear CC hb
    go_wp2_with fail
    go_ret
    exact ⟨rfl, HBW.out.trans (B6_W.out.mono HBW.out.size)⟩
  | true =>
  have HR_a := Lib.hid hra
  clear hra
  have hcc := rtrightf_any b w3 (IN_b.out _ B4_W.out)
  rw [AG_b.out] at hcc
  have CC := Lib.hid hcc
  clear hcc
  obtain ⟨b0_, b1_, b2_⟩ := HC_b.out _ B4_W.out
  go_wp2_with fail
  refine CC.out.mono ?_
  rintro e w7 ⟨rfl, hb⟩
  clear b0_ b1_ b2_
  have B8_W := Lib.hid (B4_W.out.trans (hb.mono B4_W.out.size))
  clear CC hb
  cases hrb : b.RightB with
  | false =>
    clear hrb
    have hcc := HAW.out w7
    have CC := Lib.hid hcc
    clear hcc
    go_wp2_with fail
    refine CC.out.mono ?_
    rintro e w9 ⟨rfl, hb⟩
    have B10_W := Lib.hid (B8_W.out.trans (hb.mono B8_W.out.size))
    clear CC hb
    go_wp2_with fail
    go_ret
    exact ⟨rfl, HBW.out.trans (B10_W.out.mono HBW.out.size)⟩
  | true =>
  have HR_b := Lib.hid hrb
  clear hrb
  have hcc := rtrightf_any c w7 (IN_c.out _ B8_W.out)
  rw [AG_c.out] at hcc
  have CC := Lib.hid hcc
  clear hcc
  obtain ⟨c0_, c1_, c2_⟩ := HC_c.out _ B8_W.out
  go_wp2_with fail
  refine CC.out.mono ?_
  rintro e w11 ⟨rfl, hb⟩
  clear c0_ c1_ c2_
  have B12_W := Lib.hid (B8_W.out.trans (hb.mono B8_W.out.size))
  clear CC hb
  cases hrc : c.RightB with
  | false =>
    clear hrc
    have hcc := HAW.out w11
    have CC := Lib.hid hcc
    clear hcc
    go_wp2_with fail
    refine CC.out.mono ?_
    rintro e w13 ⟨rfl, hb⟩
    have B14_W := Lib.hid (B12_W.out.trans (hb.mono B12_W.out.size))
    clear CC hb
    go_wp2_with fail
    go_ret
    exact ⟨rfl, HBW.out.trans (B14_W.out.mono HBW.out.size)⟩
  | true =>
  have HR_c := Lib.hid hrc
  clear hrc
  have hcc := joined_right a b w11 (IN_a.out _ B12_W.out) (IN_b.out _ B12_W.out) HR_a.out HR_b.out
  rw [AG_a.out, AG_b.out] at hcc
  have CC := Lib.hid hcc
  clear hcc
  obtain ⟨a0_, a1_, a2_⟩ := HC_a.out _ B12_W.out
  obtain ⟨b0_, b1_, b2_⟩ := HC_b.out _ B12_W.out
  go_wp2_with fail
  refine CC.out.mono ?_
  rintro e w15 ⟨x, kx, rfl, hin_x, hans_x, hb⟩
  clear a0_ a1_ a2_ b0_ b1_ b2_
  have B16_W := Lib.hid (B12_W.out.trans (hb.mono B12_W.out.size))
  clear CC hb
  have JA_x := Lib.hid hans_x
  clear hans_x
  obtain ⟨xa4, xb4, xf4⟩ := hin_x.nslice
  obtain ⟨xa5, xb5, xf5⟩ := hin_x.xslice
  obtain ⟨W17, hWk⟩ : ∃ X, X = w15.alloc (.cells #[.int .i64 x.k, .slice xa4 x.ns.length xb4, .slice xa5 x.xs.length xb5] 36) := ⟨_, rfl⟩
  obtain ⟨Qx, hQk⟩ : ∃ X, X = w15.heap.size := ⟨_, rfl⟩
  have hbk : Below w15.heap.size w15 W17 := by rw [hWk]; exact (Below.refl _ _).alloc (Nat.le_refl _) _
  have hblk : Blk W17 Qx 36 #[.int .i64 x.k, .slice xa4 x.ns.length xb4, .slice xa5 x.xs.length xb5] := by rw [hWk, hQk]; exact Blk.new w15 36 _
  have HC_x := Lib.hid (cells3 hblk)
  have IN_x := Lib.hid (fun (W' : World) (h : Below W17.heap.size W17 W') => (hin_x.below hbk).below h)
  have AG_x : Hid (x.agg = .agg #[.int .i64 x.k, .slice xa4 x.ns.length xb4, .slice xa5 x.xs.length xb5]) := Lib.hid (by unfold Ty.agg; rw [xf4, xf5])
  rw [AG_x.out]
  have HWk := Lib.hid hWk; have HQk := Lib.hid hQk
  have B18_W := Lib.hid (B16_W.out.trans (hbk.mono B16_W.out.size))
  have BR_W17 := Lib.hid (Below.refl W17.heap.size W17)
  clear hblk hbk hWk hQk xf4 xf5 hin_x
  go_upto_region 4 with fail
  rw [← HWk.out, ← HQk.out]
  clear HWk HQk
  have hcc := joined_right b a W17 (IN_b.out _ B18_W.out) (IN_a.out _ B18_W.out) HR_b.out HR_a.out
  rw [AG_b.out, AG_a.out] at hcc
  have CC := Lib.hid hcc
  clear hcc
  obtain ⟨b0_, b1_, b2_⟩ := HC_b.out _ B18_W.out
  obtain ⟨a0_, a1_, a2_⟩ := HC_a.out _ B18_W.out
  go_wp2_with fail
  refine CC.out.mono ?_
  rintro e w19 ⟨y, ky, rfl, hin_y, hans_y, hb⟩
  clear b0_ b1_ b2_ a0_ a1_ a2_
  have B20_W := Lib.hid (B18_W.out.trans (hb.mono B18_W.out.size))
  have B20_W17 := Lib.hid (BR_W17.out.trans (hb.mono BR_W17.out.size))
  clear CC hb
  have JA_y := Lib.hid hans_y
  clear hans_y
  obtain ⟨ya4, yb4, yf4⟩ := hin_y.nslice
  obtain ⟨ya5, yb5, yf5⟩ := hin_y.xslice
  obtain ⟨W21, hWk⟩ : ∃ X, X = w19.alloc (.cells #[.int .i64 y.k, .slice ya4 y.ns.length yb4, .slice ya5 y.xs.length yb5] 36) := ⟨_, rfl⟩
  obtain ⟨Qy, hQk⟩ : ∃ X, X = w19.heap.size := ⟨_, rfl⟩
  have hbk : Below w19.heap.size w19 W21 := by rw [hWk]; exact (Below.refl _ _).alloc (Nat.le_refl _) _
  have hblk : Blk W21 Qy 36 #[.int .i64 y.k, .slice ya4 y.ns.length yb4, .slice ya5 y.xs.length yb5] := by rw [hWk, hQk]; exact Blk.new w19 36 _
  have HC_y := Lib.hid (cells3 hblk)
  have IN_y := Lib.hid (fun (W' : World) (h : Below W21.heap.size W21 W') => (hin_y.below hbk).below h)
  have AG_y : Hid (y.agg = .agg #[.int .i64 y.k, .slice ya4 y.ns.length yb4, .slice ya5 y.xs.length yb5]) := Lib.hid (by unfold Ty.agg; rw [yf4, yf5])
  rw [AG_y.out]
  have HWk := Lib.hid hWk; have HQk := Lib.hid hQk
  have B22_W := Lib.hid (B20_W.out.trans (hbk.mono B20_W.out.size))
  have B22_W17 := Lib.hid (B20_W17.out.trans (hbk.mono B20_W17.out.size))
  have BR_W21 := Lib.hid (Below.refl W21.heap.size W21)
  clear hblk hbk hWk hQk yf4 yf5 hin_y
  go_upto_region 5 with fail
  rw [← HWk.out, ← HQk.out]
  clear HWk HQk
  have hcc := joined_right a a W21 (IN_a.out _ B22_W.out) (IN_a.out _ B22_W.out) HR_a.out HR_a.out
  rw [AG_a.out] at hcc
  have CC := Lib.hid hcc
  clear hcc
  obtain ⟨a0_, a1_, a2_⟩ := HC_a.out _ B22_W.out
  go_wp2_with fail
  refine CC.out.mono ?_
  rintro e w23 ⟨z, kz, rfl, hin_z, hans_z, hb⟩
  clear a0_ a1_ a2_
  have B24_W := Lib.hid (B22_W.out.trans (hb.mono B22_W.out.size))
  have B24_W17 := Lib.hid (B22_W17.out.trans (hb.mono B22_W17.out.size))
  have B24_W21 := Lib.hid (BR_W21.out.trans (hb.mono BR_W21.out.size))
  clear CC hb
  have JA_z := Lib.hid hans_z
  clear hans_z
  obtain ⟨za4, zb4, zf4⟩ := hin_z.nslice
  obtain ⟨za5, zb5, zf5⟩ := hin_z.xslice
  obtain ⟨W25, hWk⟩ : ∃ X, X = w23.alloc (.cells #[.int .i64 z.k, .slice za4 z.ns.length zb4, .slice za5 z.xs.length zb5] 36) := ⟨_, rfl⟩
  obtain ⟨Qz, hQk⟩ : ∃ X, X = w23.heap.size := ⟨_, rfl⟩
  have hbk : Below w23.heap.size w23 W25 := by rw [hWk]; exact (Below.refl _ _).alloc (Nat.le_refl _) _
  have hblk : Blk W25 Qz 36 #[.int .i64 z.k, .slice za4 z.ns.length zb4, .slice za5 z.xs.length zb5] := by rw [hWk, hQk]; exact Blk.new w23 36 _
  have HC_z := Lib.hid (cells3 hblk)
  have IN_z := Lib.hid (fun (W' : World) (h : Below W25.heap.size W25 W') => (hin_z.below hbk).below h)
  have AG_z : Hid (z.agg = .agg #[.int .i64 z.k, .slice za4 z.ns.length zb4, .slice za5 z.xs.length zb5]) := Lib.hid (by unfold Ty.agg; rw [zf4, zf5])
  rw [AG_z.out]
  have HWk := Lib.hid hWk; have HQk := Lib.hid hQk
  have B26_W := Lib.hid (B24_W.out.trans (hbk.mono B24_W.out.size))
  have B26_W17 := Lib.hid (B24_W17.out.trans (hbk.mono B24_W17.out.size))
  have B26_W21 := Lib.hid (B24_W21.out.trans (hbk.mono B24_W21.out.size))
  have BR_W25 := Lib.hid (Below.refl W25.heap.size W25)
  clear hblk hbk hWk hQk zf4 zf5 hin_z
  go_upto_region 6 with fail
  rw [← HWk.out, ← HQk.out]
  clear HWk HQk
  have HCM := Lib.hid (joinT_comm (right_rt HR_a.out) (right_rt HR_b.out))
  have hz : kz = 0 ∧ z.erase = a.erase := by
    rcases JA_z.out with ⟨h1, h2⟩ | ⟨h1, h2, h3⟩
    · rw [joinT_self] at h2; injection h2 with h2; exact ⟨h1, h2.symm⟩
    · rw [joinT_self] at h2; cases h2
  obtain ⟨hz1, hz2⟩ := hz
  subst hz1
  have HZE := Lib.hid hz2
  clear hz2 JA_z
  have hxy : (kx = 0 ∧ ky = 0 ∧ y.erase = x.erase ∧ a.joinT b = some x.erase) ∨ (kx = 6 ∧ ky = 6 ∧ y.erase = x.erase ∧ True) := by
    have hc := HCM.out
    rcases JA_x.out with ⟨h1, h2⟩ | ⟨h1, h2, h3⟩ <;> rcases JA_y.out with ⟨g1, g2⟩ | ⟨g1, g2, g3⟩
    · rw [← hc, h2] at g2; injection g2 with g2; exact .inl ⟨h1, g1, g2.symm, h2⟩
    · rw [← hc, h2] at g2; cases g2
    · rw [← hc, h2] at g2; cases g2
    · exact .inr ⟨h1, g1, by rw [g3, h3], trivial⟩
  have HYE : Hid (y.erase = x.erase) := Lib.hid (by rcases hxy with h | h; exact h.2.2.1; exact h.2.2.1)
  have HXY : Hid ((kx = 0 ∧ ky = 0 ∧ a.joinT b = some x.erase) ∨ (kx = 6 ∧ ky = 6)) := Lib.hid (by rcases hxy with h | h; exact .inl ⟨h.1, h.2.1, h.2.2.2⟩; exact .inr ⟨h.1, h.2.1⟩)
  have hkk : ky = kx := by rcases hxy with h | h <;> omega
  subst hkk
  clear hxy JA_x JA_y HCM
  have hcc := tsame_any x.sz x y W25 (Nat.le_refl _) (IN_x.out _ B26_W17.out) (IN_y.out _ B26_W21.out)
  rw [AG_x.out, AG_y.out] at hcc
  have CC := Lib.hid hcc
  clear hcc
  obtain ⟨x0_, x1_, x2_⟩ := HC_x.out _ B26_W17.out
  obtain ⟨y0_, y1_, y2_⟩ := HC_y.out _ B26_W21.out
  go_wp2_with fail
  refine CC.out.mono ?_
  rintro e w27 ⟨rfl, hb⟩
  clear x0_ x1_ x2_ y0_ y1_ y2_
  have B28_W := Lib.hid (B26_W.out.trans (hb.mono B26_W.out.size))
  have B28_W17 := Lib.hid (B26_W17.out.trans (hb.mono B26_W17.out.size))
  have B28_W21 := Lib.hid (B26_W21.out.trans (hb.mono B26_W21.out.size))
  have B28_W25 := Lib.hid (BR_W25.out.trans (hb.mono BR_W25.out.size))
  clear CC hb
  rw [Ty.sameB_of (HYE.out.symm)]
  have hcc := tsame_any z.sz z a w27 (Nat.le_refl _) (IN_z.out _ B28_W25.out) (IN_a.out _ B28_W.out)
  rw [AG_z.out, AG_a.out] at hcc
  have CC := Lib.hid hcc
  clear hcc
  obtain ⟨z0_, z1_, z2_⟩ := HC_z.out _ B28_W25.out
  obtain ⟨a0_, a1_, a2_⟩ := HC_a.out _ B28_W.out
  go_wp2_with fail
  refine CC.out.mono ?_
  rintro e w29 ⟨rfl, hb⟩
  clear z0_ z1_ z2_ a0_ a1_ a2_
  have B30_W := Lib.hid (B28_W.out.trans (hb.mono B28_W.out.size))
  have B30_W17 := Lib.hid (B28_W17.out.trans (hb.mono B28_W17.out.size))
  have B30_W21 := Lib.hid (B28_W21.out.trans (hb.mono B28_W21.out.size))
  have B30_W25 := Lib.hid (B28_W25.out.trans (hb.mono B28_W25.out.size))
  clear CC hb
  rw [Ty.sameB_of (HZE.out)]
  have hcc := is_any a a w29 (IN_a.out _ B30_W.out) (IN_a.out _ B30_W.out)
  rw [AG_a.out] at hcc
  have CC := Lib.hid hcc
  clear hcc
  obtain ⟨a0_, a1_, a2_⟩ := HC_a.out _ B30_W.out
  go_wp2_with fail
  refine CC.out.mono ?_
  rintro e w31 ⟨rfl, hb⟩
  clear a0_ a1_ a2_
  have B32_W := Lib.hid (B30_W.out.trans (hb.mono B30_W.out.size))
  have B32_W17 := Lib.hid (B30_W17.out.trans (hb.mono B30_W17.out.size))
  have B32_W21 := Lib.hid (B30_W21.out.trans (hb.mono B30_W21.out.size))
  have B32_W25 := Lib.hid (B30_W25.out.trans (hb.mono B30_W25.out.size))
  clear CC hb
  rw [isB_self HR_a.out]
  rcases HXY.out with ⟨rfl, -, hj⟩ | ⟨rfl, -⟩
  case inr =>
    go_wp2_with fail
    go_ret
    exact ⟨rfl, HBW.out.trans (B32_W.out.mono HBW.out.size)⟩
  have HJ := Lib.hid hj
  clear hj HXY
  have hcc := rtrightf_any x w31 (IN_x.out _ B32_W17.out)
  rw [AG_x.out] at hcc
  have CC := Lib.hid hcc
  clear hcc
  obtain ⟨x0_, x1_, x2_⟩ := HC_x.out _ B32_W17.out
  go_wp2_with fail
  refine CC.out.mono ?_
  rintro e w33 ⟨rfl, hb⟩
  clear x0_ x1_ x2_
  have B34_W := Lib.hid (B32_W.out.trans (hb.mono B32_W.out.size))
  have B34_W17 := Lib.hid (B32_W17.out.trans (hb.mono B32_W17.out.size))
  have B34_W21 := Lib.hid (B32_W21.out.trans (hb.mono B32_W21.out.size))
  have B34_W25 := Lib.hid (B32_W25.out.trans (hb.mono B32_W25.out.size))
  clear CC hb
  cases hrx : x.RightB with
  | false =>
    clear hrx
    go_wp2_with fail
    go_ret
    exact ⟨rfl, HBW.out.trans (B34_W.out.mono HBW.out.size)⟩
  | true =>
  have HR_x := Lib.hid hrx
  clear hrx
  have HAS : Hid (x.joinT c = (b.joinT c).bind (fun q => a.joinT q)) := Lib.hid (by have h := joinT_assoc (right_rt HR_a.out) (right_rt HR_b.out) (right_rt HR_c.out); rw [HJ.out] at h; rw [← h]; show _ = x.erase.joinT c; rw [Ty.joinT_eraseL])
  have HUP := Lib.hid (joinT_up (right_rt HR_a.out) (right_rt HR_b.out) HJ.out)
  have hcc := joined_right x c w33 (IN_x.out _ B34_W17.out) (IN_c.out _ B34_W.out) HR_x.out HR_c.out
  rw [AG_x.out, AG_c.out] at hcc
  have CC := Lib.hid hcc
  clear hcc
  obtain ⟨x0_, x1_, x2_⟩ := HC_x.out _ B34_W17.out
  obtain ⟨c0_, c1_, c2_⟩ := HC_c.out _ B34_W.out
  go_wp2_with fail
  refine CC.out.mono ?_
  rintro e w35 ⟨p, kp, rfl, hin_p, hans_p, hb⟩
  clear x0_ x1_ x2_ c0_ c1_ c2_
  have B36_W := Lib.hid (B34_W.out.trans (hb.mono B34_W.out.size))
  have B36_W17 := Lib.hid (B34_W17.out.trans (hb.mono B34_W17.out.size))
  have B36_W21 := Lib.hid (B34_W21.out.trans (hb.mono B34_W21.out.size))
  have B36_W25 := Lib.hid (B34_W25.out.trans (hb.mono B34_W25.out.size))
  clear CC hb
  have JA_p := Lib.hid hans_p
  clear hans_p
  obtain ⟨pa4, pb4, pf4⟩ := hin_p.nslice
  obtain ⟨pa5, pb5, pf5⟩ := hin_p.xslice
  obtain ⟨W37, hWk⟩ : ∃ X, X = w35.alloc (.cells #[.int .i64 p.k, .slice pa4 p.ns.length pb4, .slice pa5 p.xs.length pb5] 36) := ⟨_, rfl⟩
  obtain ⟨Qp, hQk⟩ : ∃ X, X = w35.heap.size := ⟨_, rfl⟩
  have hbk : Below w35.heap.size w35 W37 := by rw [hWk]; exact (Below.refl _ _).alloc (Nat.le_refl _) _
  have hblk : Blk W37 Qp 36 #[.int .i64 p.k, .slice pa4 p.ns.length pb4, .slice pa5 p.xs.length pb5] := by rw [hWk, hQk]; exact Blk.new w35 36 _
  have HC_p := Lib.hid (cells3 hblk)
  have IN_p := Lib.hid (fun (W' : World) (h : Below W37.heap.size W37 W') => (hin_p.below hbk).below h)
  have AG_p : Hid (p.agg = .agg #[.int .i64 p.k, .slice pa4 p.ns.length pb4, .slice pa5 p.xs.length pb5]) := Lib.hid (by unfold Ty.agg; rw [pf4, pf5])
  rw [AG_p.out]
  have HWk := Lib.hid hWk; have HQk := Lib.hid hQk
  have B38_W := Lib.hid (B36_W.out.trans (hbk.mono B36_W.out.size))
  have B38_W17 := Lib.hid (B36_W17.out.trans (hbk.mono B36_W17.out.size))
  have B38_W21 := Lib.hid (B36_W21.out.trans (hbk.mono B36_W21.out.size))
  have B38_W25 := Lib.hid (B36_W25.out.trans (hbk.mono B36_W25.out.size))
  have BR_W37 := Lib.hid (Below.refl W37.heap.size W37)
  clear hblk hbk hWk hQk pf4 pf5 hin_p
  go_upto_region 13 with fail
  rw [← HWk.out, ← HQk.out]
  clear HWk HQk
  have hcc := joined_right b c W37 (IN_b.out _ B38_W.out) (IN_c.out _ B38_W.out) HR_b.out HR_c.out
  rw [AG_b.out, AG_c.out] at hcc
  have CC := Lib.hid hcc
  clear hcc
  obtain ⟨b0_, b1_, b2_⟩ := HC_b.out _ B38_W.out
  obtain ⟨c0_, c1_, c2_⟩ := HC_c.out _ B38_W.out
  go_wp2_with fail
  refine CC.out.mono ?_
  rintro e w39 ⟨q, kq, rfl, hin_q, hans_q, hb⟩
  clear b0_ b1_ b2_ c0_ c1_ c2_
  have B40_W := Lib.hid (B38_W.out.trans (hb.mono B38_W.out.size))
  have B40_W17 := Lib.hid (B38_W17.out.trans (hb.mono B38_W17.out.size))
  have B40_W21 := Lib.hid (B38_W21.out.trans (hb.mono B38_W21.out.size))
  have B40_W25 := Lib.hid (B38_W25.out.trans (hb.mono B38_W25.out.size))
  have B40_W37 := Lib.hid (BR_W37.out.trans (hb.mono BR_W37.out.size))
  clear CC hb
  have JA_q := Lib.hid hans_q
  clear hans_q
  obtain ⟨qa4, qb4, qf4⟩ := hin_q.nslice
  obtain ⟨qa5, qb5, qf5⟩ := hin_q.xslice
  obtain ⟨W41, hWk⟩ : ∃ X, X = w39.alloc (.cells #[.int .i64 q.k, .slice qa4 q.ns.length qb4, .slice qa5 q.xs.length qb5] 36) := ⟨_, rfl⟩
  obtain ⟨Qq, hQk⟩ : ∃ X, X = w39.heap.size := ⟨_, rfl⟩
  have hbk : Below w39.heap.size w39 W41 := by rw [hWk]; exact (Below.refl _ _).alloc (Nat.le_refl _) _
  have hblk : Blk W41 Qq 36 #[.int .i64 q.k, .slice qa4 q.ns.length qb4, .slice qa5 q.xs.length qb5] := by rw [hWk, hQk]; exact Blk.new w39 36 _
  have HC_q := Lib.hid (cells3 hblk)
  have IN_q := Lib.hid (fun (W' : World) (h : Below W41.heap.size W41 W') => (hin_q.below hbk).below h)
  have AG_q : Hid (q.agg = .agg #[.int .i64 q.k, .slice qa4 q.ns.length qb4, .slice qa5 q.xs.length qb5]) := Lib.hid (by unfold Ty.agg; rw [qf4, qf5])
  rw [AG_q.out]
  have HWk := Lib.hid hWk; have HQk := Lib.hid hQk
  have B42_W := Lib.hid (B40_W.out.trans (hbk.mono B40_W.out.size))
  have B42_W17 := Lib.hid (B40_W17.out.trans (hbk.mono B40_W17.out.size))
  have B42_W21 := Lib.hid (B40_W21.out.trans (hbk.mono B40_W21.out.size))
  have B42_W25 := Lib.hid (B40_W25.out.trans (hbk.mono B40_W25.out.size))
  have B42_W37 := Lib.hid (B40_W37.out.trans (hbk.mono B40_W37.out.size))
  have BR_W41 := Lib.hid (Below.refl W41.heap.size W41)
  clear hblk hbk hWk hQk qf4 qf5 hin_q
  go_upto_region 14 with fail
  rw [← HWk.out, ← HQk.out]
  clear HWk HQk
  rcases JA_q.out with ⟨rfl, hq⟩ | ⟨rfl, hq, hq2⟩
  case inr =>
    have hp : kp = 6 := by
      have h := HAS.out
      rw [hq] at h
      rcases JA_p.out with ⟨h1, h2⟩ | ⟨h1, h2, h3⟩
      · rw [h] at h2; cases h2
      · exact h1
    subst hp
    have HQ2 := Lib.hid hq2
    clear hq hq2 JA_p JA_q
    have hcc := joined_wrong a q W41 (IN_a.out _ B42_W.out) (IN_q.out _ BR_W41.out) (zero_wrong a q HQ2.out)
    rw [AG_a.out, AG_q.out] at hcc
    have CC := Lib.hid hcc
    clear hcc
    obtain ⟨a0_, a1_, a2_⟩ := HC_a.out _ B42_W.out
    obtain ⟨q0_, q1_, q2_⟩ := HC_q.out _ BR_W41.out
    go_wp2_with fail
    refine CC.out.mono ?_
    rintro e w43 ⟨rfl, hb⟩
    clear a0_ a1_ a2_ q0_ q1_ q2_
    have B44_W := Lib.hid (B42_W.out.trans (hb.mono B42_W.out.size))
    have B44_W17 := Lib.hid (B42_W17.out.trans (hb.mono B42_W17.out.size))
    have B44_W21 := Lib.hid (B42_W21.out.trans (hb.mono B42_W21.out.size))
    have B44_W25 := Lib.hid (B42_W25.out.trans (hb.mono B42_W25.out.size))
    have B44_W37 := Lib.hid (B42_W37.out.trans (hb.mono B42_W37.out.size))
    have B44_W41 := Lib.hid (BR_W41.out.trans (hb.mono BR_W41.out.size))
    clear CC hb
    obtain ⟨r, hr⟩ : ∃ r, r = Ty.zero := ⟨_, rfl⟩
    rw [← hr]
    have hin_r : r.In w43 := by rw [hr]; exact tzero_in _
    clear hr
    obtain ⟨ra4, rb4, rf4⟩ := hin_r.nslice
    obtain ⟨ra5, rb5, rf5⟩ := hin_r.xslice
    obtain ⟨W45, hWk⟩ : ∃ X, X = w43.alloc (.cells #[.int .i64 r.k, .slice ra4 r.ns.length rb4, .slice ra5 r.xs.length rb5] 36) := ⟨_, rfl⟩
    obtain ⟨Qr, hQk⟩ : ∃ X, X = w43.heap.size := ⟨_, rfl⟩
    have hbk : Below w43.heap.size w43 W45 := by rw [hWk]; exact (Below.refl _ _).alloc (Nat.le_refl _) _
    have hblk : Blk W45 Qr 36 #[.int .i64 r.k, .slice ra4 r.ns.length rb4, .slice ra5 r.xs.length rb5] := by rw [hWk, hQk]; exact Blk.new w43 36 _
    have HC_r := Lib.hid (cells3 hblk)
    have IN_r := Lib.hid (fun (W' : World) (h : Below W45.heap.size W45 W') => (hin_r.below hbk).below h)
    have AG_r : Hid (r.agg = .agg #[.int .i64 r.k, .slice ra4 r.ns.length rb4, .slice ra5 r.xs.length rb5]) := Lib.hid (by unfold Ty.agg; rw [rf4, rf5])
    rw [AG_r.out]
    have HWk := Lib.hid hWk; have HQk := Lib.hid hQk
    have B46_W := Lib.hid (B44_W.out.trans (hbk.mono B44_W.out.size))
    have B46_W17 := Lib.hid (B44_W17.out.trans (hbk.mono B44_W17.out.size))
    have B46_W21 := Lib.hid (B44_W21.out.trans (hbk.mono B44_W21.out.size))
    have B46_W25 := Lib.hid (B44_W25.out.trans (hbk.mono B44_W25.out.size))
    have B46_W37 := Lib.hid (B44_W37.out.trans (hbk.mono B44_W37.out.size))
    have B46_W41 := Lib.hid (B44_W41.out.trans (hbk.mono B44_W41.out.size))
    have BR_W45 := Lib.hid (Below.refl W45.heap.size W45)
    clear hblk hbk hWk hQk rf4 rf5 hin_r
    go_upto_region 15 with fail
    rw [← HWk.out, ← HQk.out]
    clear HWk HQk
    have hcc := is_any a x W45 (IN_a.out _ B46_W.out) (IN_x.out _ B46_W17.out)
    rw [AG_a.out, AG_x.out] at hcc
    have CC := Lib.hid hcc
    clear hcc
    obtain ⟨a0_, a1_, a2_⟩ := HC_a.out _ B46_W.out
    obtain ⟨x0_, x1_, x2_⟩ := HC_x.out _ B46_W17.out
    go_wp2_with fail
    refine CC.out.mono ?_
    rintro e w47 ⟨rfl, hb⟩
    clear a0_ a1_ a2_ x0_ x1_ x2_
    have B48_W := Lib.hid (B46_W.out.trans (hb.mono B46_W.out.size))
    have B48_W17 := Lib.hid (B46_W17.out.trans (hb.mono B46_W17.out.size))
    have B48_W21 := Lib.hid (B46_W21.out.trans (hb.mono B46_W21.out.size))
    have B48_W25 := Lib.hid (B46_W25.out.trans (hb.mono B46_W25.out.size))
    have B48_W37 := Lib.hid (B46_W37.out.trans (hb.mono B46_W37.out.size))
    have B48_W41 := Lib.hid (B46_W41.out.trans (hb.mono B46_W41.out.size))
    have B48_W45 := Lib.hid (BR_W45.out.trans (hb.mono BR_W45.out.size))
    clear CC hb
    rw [isB_up HR_a.out HR_x.out rfl HUP.out.1]
    have hcc := is_any b x w47 (IN_b.out _ B48_W.out) (IN_x.out _ B48_W17.out)
    rw [AG_b.out, AG_x.out] at hcc
    have CC := Lib.hid hcc
    clear hcc
    obtain ⟨b0_, b1_, b2_⟩ := HC_b.out _ B48_W.out
    obtain ⟨x0_, x1_, x2_⟩ := HC_x.out _ B48_W17.out
    go_wp2_with fail
    refine CC.out.mono ?_
    rintro e w49 ⟨rfl, hb⟩
    clear b0_ b1_ b2_ x0_ x1_ x2_
    have B50_W := Lib.hid (B48_W.out.trans (hb.mono B48_W.out.size))
    have B50_W17 := Lib.hid (B48_W17.out.trans (hb.mono B48_W17.out.size))
    have B50_W21 := Lib.hid (B48_W21.out.trans (hb.mono B48_W21.out.size))
    have B50_W25 := Lib.hid (B48_W25.out.trans (hb.mono B48_W25.out.size))
    have B50_W37 := Lib.hid (B48_W37.out.trans (hb.mono B48_W37.out.size))
    have B50_W41 := Lib.hid (B48_W41.out.trans (hb.mono B48_W41.out.size))
    have B50_W45 := Lib.hid (B48_W45.out.trans (hb.mono B48_W45.out.size))
    clear CC hb
    rw [isB_up HR_b.out HR_x.out rfl HUP.out.2]
    go_wp2_with fail
    go_ret
    exact ⟨rfl, HBW.out.trans (B50_W.out.mono HBW.out.size)⟩
  have HQ := Lib.hid hq
  clear hq JA_q
  cases hrq : q.RightB with
  | false =>
    have HRQ := Lib.hid hrq
    clear hrq
    have hcc := joined_wrong a q W41 (IN_a.out _ B42_W.out) (IN_q.out _ BR_W41.out) (by rw [HRQ.out, Bool.and_false])
    rw [AG_a.out, AG_q.out] at hcc
    have CC := Lib.hid hcc
    clear hcc
    obtain ⟨a0_, a1_, a2_⟩ := HC_a.out _ B42_W.out
    obtain ⟨q0_, q1_, q2_⟩ := HC_q.out _ BR_W41.out
    go_wp2_with fail
    refine CC.out.mono ?_
    rintro e w51 ⟨rfl, hb⟩
    clear a0_ a1_ a2_ q0_ q1_ q2_
    have B52_W := Lib.hid (B42_W.out.trans (hb.mono B42_W.out.size))
    have B52_W17 := Lib.hid (B42_W17.out.trans (hb.mono B42_W17.out.size))
    have B52_W21 := Lib.hid (B42_W21.out.trans (hb.mono B42_W21.out.size))
    have B52_W25 := Lib.hid (B42_W25.out.trans (hb.mono B42_W25.out.size))
    have B52_W37 := Lib.hid (B42_W37.out.trans (hb.mono B42_W37.out.size))
    have B52_W41 := Lib.hid (BR_W41.out.trans (hb.mono BR_W41.out.size))
    clear CC hb
    obtain ⟨r, hr⟩ : ∃ r, r = Ty.zero := ⟨_, rfl⟩
    rw [← hr]
    have hin_r : r.In w51 := by rw [hr]; exact tzero_in _
    clear hr
    obtain ⟨ra4, rb4, rf4⟩ := hin_r.nslice
    obtain ⟨ra5, rb5, rf5⟩ := hin_r.xslice
    obtain ⟨W53, hWk⟩ : ∃ X, X = w51.alloc (.cells #[.int .i64 r.k, .slice ra4 r.ns.length rb4, .slice ra5 r.xs.length rb5] 36) := ⟨_, rfl⟩
    obtain ⟨Qr, hQk⟩ : ∃ X, X = w51.heap.size := ⟨_, rfl⟩
    have hbk : Below w51.heap.size w51 W53 := by rw [hWk]; exact (Below.refl _ _).alloc (Nat.le_refl _) _
    have hblk : Blk W53 Qr 36 #[.int .i64 r.k, .slice ra4 r.ns.length rb4, .slice ra5 r.xs.length rb5] := by rw [hWk, hQk]; exact Blk.new w51 36 _
    have HC_r := Lib.hid (cells3 hblk)
    have IN_r := Lib.hid (fun (W' : World) (h : Below W53.heap.size W53 W') => (hin_r.below hbk).below h)
    have AG_r : Hid (r.agg = .agg #[.int .i64 r.k, .slice ra4 r.ns.length rb4, .slice ra5 r.xs.length rb5]) := Lib.hid (by unfold Ty.agg; rw [rf4, rf5])
    rw [AG_r.out]
    have HWk := Lib.hid hWk; have HQk := Lib.hid hQk
    have B54_W := Lib.hid (B52_W.out.trans (hbk.mono B52_W.out.size))
    have B54_W17 := Lib.hid (B52_W17.out.trans (hbk.mono B52_W17.out.size))
    have B54_W21 := Lib.hid (B52_W21.out.trans (hbk.mono B52_W21.out.size))
    have B54_W25 := Lib.hid (B52_W25.out.trans (hbk.mono B52_W25.out.size))
    have B54_W37 := Lib.hid (B52_W37.out.trans (hbk.mono B52_W37.out.size))
    have B54_W41 := Lib.hid (B52_W41.out.trans (hbk.mono B52_W41.out.size))
    have BR_W53 := Lib.hid (Below.refl W53.heap.size W53)
    clear hblk hbk hWk hQk rf4 rf5 hin_r
    go_upto_region 15 with fail
    rw [← HWk.out, ← HQk.out]
    clear HWk HQk
    have hcc := rtrightf_any q W53 (IN_q.out _ B54_W41.out)
    rw [AG_q.out] at hcc
    have CC := Lib.hid hcc
    clear hcc
    obtain ⟨q0_, q1_, q2_⟩ := HC_q.out _ B54_W41.out
    go_wp2_with fail
    refine CC.out.mono ?_
    rintro e w55 ⟨rfl, hb⟩
    clear q0_ q1_ q2_
    have B56_W := Lib.hid (B54_W.out.trans (hb.mono B54_W.out.size))
    have B56_W17 := Lib.hid (B54_W17.out.trans (hb.mono B54_W17.out.size))
    have B56_W21 := Lib.hid (B54_W21.out.trans (hb.mono B54_W21.out.size))
    have B56_W25 := Lib.hid (B54_W25.out.trans (hb.mono B54_W25.out.size))
    have B56_W37 := Lib.hid (B54_W37.out.trans (hb.mono B54_W37.out.size))
    have B56_W41 := Lib.hid (B54_W41.out.trans (hb.mono B54_W41.out.size))
    have B56_W53 := Lib.hid (BR_W53.out.trans (hb.mono BR_W53.out.size))
    clear CC hb
    rw [HRQ.out]
    go_wp2_with fail
    go_ret
    exact ⟨rfl, HBW.out.trans (B56_W.out.mono HBW.out.size)⟩
  | true =>
  have HR_q := Lib.hid hrq
  clear hrq
  have hcc := joined_right a q W41 (IN_a.out _ B42_W.out) (IN_q.out _ BR_W41.out) HR_a.out HR_q.out
  rw [AG_a.out, AG_q.out] at hcc
  have CC := Lib.hid hcc
  clear hcc
  obtain ⟨a0_, a1_, a2_⟩ := HC_a.out _ B42_W.out
  obtain ⟨q0_, q1_, q2_⟩ := HC_q.out _ BR_W41.out
  go_wp2_with fail
  refine CC.out.mono ?_
  rintro e w57 ⟨r, kr, rfl, hin_r, hans_r, hb⟩
  clear a0_ a1_ a2_ q0_ q1_ q2_
  have B58_W := Lib.hid (B42_W.out.trans (hb.mono B42_W.out.size))
  have B58_W17 := Lib.hid (B42_W17.out.trans (hb.mono B42_W17.out.size))
  have B58_W21 := Lib.hid (B42_W21.out.trans (hb.mono B42_W21.out.size))
  have B58_W25 := Lib.hid (B42_W25.out.trans (hb.mono B42_W25.out.size))
  have B58_W37 := Lib.hid (B42_W37.out.trans (hb.mono B42_W37.out.size))
  have B58_W41 := Lib.hid (BR_W41.out.trans (hb.mono BR_W41.out.size))
  clear CC hb
  have JA_r := Lib.hid hans_r
  clear hans_r
  obtain ⟨ra4, rb4, rf4⟩ := hin_r.nslice
  obtain ⟨ra5, rb5, rf5⟩ := hin_r.xslice
  obtain ⟨W59, hWk⟩ : ∃ X, X = w57.alloc (.cells #[.int .i64 r.k, .slice ra4 r.ns.length rb4, .slice ra5 r.xs.length rb5] 36) := ⟨_, rfl⟩
  obtain ⟨Qr, hQk⟩ : ∃ X, X = w57.heap.size := ⟨_, rfl⟩
  have hbk : Below w57.heap.size w57 W59 := by rw [hWk]; exact (Below.refl _ _).alloc (Nat.le_refl _) _
  have hblk : Blk W59 Qr 36 #[.int .i64 r.k, .slice ra4 r.ns.length rb4, .slice ra5 r.xs.length rb5] := by rw [hWk, hQk]; exact Blk.new w57 36 _
  have HC_r := Lib.hid (cells3 hblk)
  have IN_r := Lib.hid (fun (W' : World) (h : Below W59.heap.size W59 W') => (hin_r.below hbk).below h)
  have AG_r : Hid (r.agg = .agg #[.int .i64 r.k, .slice ra4 r.ns.length rb4, .slice ra5 r.xs.length rb5]) := Lib.hid (by unfold Ty.agg; rw [rf4, rf5])
  rw [AG_r.out]
  have HWk := Lib.hid hWk; have HQk := Lib.hid hQk
  have B60_W := Lib.hid (B58_W.out.trans (hbk.mono B58_W.out.size))
  have B60_W17 := Lib.hid (B58_W17.out.trans (hbk.mono B58_W17.out.size))
  have B60_W21 := Lib.hid (B58_W21.out.trans (hbk.mono B58_W21.out.size))
  have B60_W25 := Lib.hid (B58_W25.out.trans (hbk.mono B58_W25.out.size))
  have B60_W37 := Lib.hid (B58_W37.out.trans (hbk.mono B58_W37.out.size))
  have B60_W41 := Lib.hid (B58_W41.out.trans (hbk.mono B58_W41.out.size))
  have BR_W59 := Lib.hid (Below.refl W59.heap.size W59)
  clear hblk hbk hWk hQk rf4 rf5 hin_r
  go_upto_region 15 with fail
  rw [← HWk.out, ← HQk.out]
  clear HWk HQk
  have hcc := rtrightf_any q W59 (IN_q.out _ B60_W41.out)
  rw [AG_q.out] at hcc
  have CC := Lib.hid hcc
  clear hcc
  obtain ⟨q0_, q1_, q2_⟩ := HC_q.out _ B60_W41.out
  go_wp2_with fail
  refine CC.out.mono ?_
  rintro e w61 ⟨rfl, hb⟩
  clear q0_ q1_ q2_
  have B62_W := Lib.hid (B60_W.out.trans (hb.mono B60_W.out.size))
  have B62_W17 := Lib.hid (B60_W17.out.trans (hb.mono B60_W17.out.size))
  have B62_W21 := Lib.hid (B60_W21.out.trans (hb.mono B60_W21.out.size))
  have B62_W25 := Lib.hid (B60_W25.out.trans (hb.mono B60_W25.out.size))
  have B62_W37 := Lib.hid (B60_W37.out.trans (hb.mono B60_W37.out.size))
  have B62_W41 := Lib.hid (B60_W41.out.trans (hb.mono B60_W41.out.size))
  have B62_W59 := Lib.hid (BR_W59.out.trans (hb.mono BR_W59.out.size))
  clear CC hb
  rw [HR_q.out]
  have hpr : (kp = 0 ∧ kr = 0 ∧ p.erase = r.erase) ∨ (kp = 6 ∧ kr = 6 ∧ True) := by
    have h := HAS.out
    rw [HQ.out] at h
    have h : x.joinT c = a.joinT q.erase := h
    rw [Ty.joinT_eraseR] at h
    rcases JA_p.out with ⟨h1, h2⟩ | ⟨h1, h2, h3⟩ <;> rcases JA_r.out with ⟨g1, g2⟩ | ⟨g1, g2, g3⟩
    · rw [h, g2] at h2; injection h2 with h2; exact .inl ⟨h1, g1, h2.symm⟩
    · rw [h, g2] at h2; cases h2
    · rw [h, g2] at h2; cases h2
    · exact .inr ⟨h1, g1, trivial⟩
  clear JA_p JA_r
  rcases hpr with ⟨rfl, rfl, hpr⟩ | ⟨rfl, rfl, -⟩
  case inr =>
    have hcc := is_any a x w61 (IN_a.out _ B62_W.out) (IN_x.out _ B62_W17.out)
    rw [AG_a.out, AG_x.out] at hcc
    have CC := Lib.hid hcc
    clear hcc
    obtain ⟨a0_, a1_, a2_⟩ := HC_a.out _ B62_W.out
    obtain ⟨x0_, x1_, x2_⟩ := HC_x.out _ B62_W17.out
    go_wp2_with fail
    refine CC.out.mono ?_
    rintro e w63 ⟨rfl, hb⟩
    clear a0_ a1_ a2_ x0_ x1_ x2_
    have B64_W := Lib.hid (B62_W.out.trans (hb.mono B62_W.out.size))
    have B64_W17 := Lib.hid (B62_W17.out.trans (hb.mono B62_W17.out.size))
    have B64_W21 := Lib.hid (B62_W21.out.trans (hb.mono B62_W21.out.size))
    have B64_W25 := Lib.hid (B62_W25.out.trans (hb.mono B62_W25.out.size))
    have B64_W37 := Lib.hid (B62_W37.out.trans (hb.mono B62_W37.out.size))
    have B64_W41 := Lib.hid (B62_W41.out.trans (hb.mono B62_W41.out.size))
    have B64_W59 := Lib.hid (B62_W59.out.trans (hb.mono B62_W59.out.size))
    clear CC hb
    rw [isB_up HR_a.out HR_x.out rfl HUP.out.1]
    have hcc := is_any b x w63 (IN_b.out _ B64_W.out) (IN_x.out _ B64_W17.out)
    rw [AG_b.out, AG_x.out] at hcc
    have CC := Lib.hid hcc
    clear hcc
    obtain ⟨b0_, b1_, b2_⟩ := HC_b.out _ B64_W.out
    obtain ⟨x0_, x1_, x2_⟩ := HC_x.out _ B64_W17.out
    go_wp2_with fail
    refine CC.out.mono ?_
    rintro e w65 ⟨rfl, hb⟩
    clear b0_ b1_ b2_ x0_ x1_ x2_
    have B66_W := Lib.hid (B64_W.out.trans (hb.mono B64_W.out.size))
    have B66_W17 := Lib.hid (B64_W17.out.trans (hb.mono B64_W17.out.size))
    have B66_W21 := Lib.hid (B64_W21.out.trans (hb.mono B64_W21.out.size))
    have B66_W25 := Lib.hid (B64_W25.out.trans (hb.mono B64_W25.out.size))
    have B66_W37 := Lib.hid (B64_W37.out.trans (hb.mono B64_W37.out.size))
    have B66_W41 := Lib.hid (B64_W41.out.trans (hb.mono B64_W41.out.size))
    have B66_W59 := Lib.hid (B64_W59.out.trans (hb.mono B64_W59.out.size))
    clear CC hb
    rw [isB_up HR_b.out HR_x.out rfl HUP.out.2]
    go_wp2_with fail
    go_ret
    exact ⟨rfl, HBW.out.trans (B66_W.out.mono HBW.out.size)⟩
  have HPR := Lib.hid hpr
  clear hpr
  have hcc := is_any a x w61 (IN_a.out _ B62_W.out) (IN_x.out _ B62_W17.out)
  rw [AG_a.out, AG_x.out] at hcc
  have CC := Lib.hid hcc
  clear hcc
  obtain ⟨a0_, a1_, a2_⟩ := HC_a.out _ B62_W.out
  obtain ⟨x0_, x1_, x2_⟩ := HC_x.out _ B62_W17.out
  go_wp2_with fail
  refine CC.out.mono ?_
  rintro e w67 ⟨rfl, hb⟩
  clear a0_ a1_ a2_ x0_ x1_ x2_
  have B68_W := Lib.hid (B62_W.out.trans (hb.mono B62_W.out.size))
  have B68_W17 := Lib.hid (B62_W17.out.trans (hb.mono B62_W17.out.size))
  have B68_W21 := Lib.hid (B62_W21.out.trans (hb.mono B62_W21.out.size))
  have B68_W25 := Lib.hid (B62_W25.out.trans (hb.mono B62_W25.out.size))
  have B68_W37 := Lib.hid (B62_W37.out.trans (hb.mono B62_W37.out.size))
  have B68_W41 := Lib.hid (B62_W41.out.trans (hb.mono B62_W41.out.size))
  have B68_W59 := Lib.hid (B62_W59.out.trans (hb.mono B62_W59.out.size))
  clear CC hb
  rw [isB_up HR_a.out HR_x.out rfl HUP.out.1]
  have hcc := is_any b x w67 (IN_b.out _ B68_W.out) (IN_x.out _ B68_W17.out)
  rw [AG_b.out, AG_x.out] at hcc
  have CC := Lib.hid hcc
  clear hcc
  obtain ⟨b0_, b1_, b2_⟩ := HC_b.out _ B68_W.out
  obtain ⟨x0_, x1_, x2_⟩ := HC_x.out _ B68_W17.out
  go_wp2_with fail
  refine CC.out.mono ?_
  rintro e w69 ⟨rfl, hb⟩
  clear b0_ b1_ b2_ x0_ x1_ x2_
  have B70_W := Lib.hid (B68_W.out.trans (hb.mono B68_W.out.size))
  have B70_W17 := Lib.hid (B68_W17.out.trans (hb.mono B68_W17.out.size))
  have B70_W21 := Lib.hid (B68_W21.out.trans (hb.mono B68_W21.out.size))
  have B70_W25 := Lib.hid (B68_W25.out.trans (hb.mono B68_W25.out.size))
  have B70_W37 := Lib.hid (B68_W37.out.trans (hb.mono B68_W37.out.size))
  have B70_W41 := Lib.hid (B68_W41.out.trans (hb.mono B68_W41.out.size))
  have B70_W59 := Lib.hid (B68_W59.out.trans (hb.mono B68_W59.out.size))
  clear CC hb
  rw [isB_up HR_b.out HR_x.out rfl HUP.out.2]
  have hcc := tsame_any p.sz p r w69 (Nat.le_refl _) (IN_p.out _ B70_W37.out) (IN_r.out _ B70_W59.out)
  rw [AG_p.out, AG_r.out] at hcc
  have CC := Lib.hid hcc
  clear hcc
  obtain ⟨p0_, p1_, p2_⟩ := HC_p.out _ B70_W37.out
  obtain ⟨r0_, r1_, r2_⟩ := HC_r.out _ B70_W59.out
  go_wp2_with fail
  refine CC.out.mono ?_
  rintro e w71 ⟨rfl, hb⟩
  clear p0_ p1_ p2_ r0_ r1_ r2_
  have B72_W := Lib.hid (B70_W.out.trans (hb.mono B70_W.out.size))
  have B72_W17 := Lib.hid (B70_W17.out.trans (hb.mono B70_W17.out.size))
  have B72_W21 := Lib.hid (B70_W21.out.trans (hb.mono B70_W21.out.size))
  have B72_W25 := Lib.hid (B70_W25.out.trans (hb.mono B70_W25.out.size))
  have B72_W37 := Lib.hid (B70_W37.out.trans (hb.mono B70_W37.out.size))
  have B72_W41 := Lib.hid (B70_W41.out.trans (hb.mono B70_W41.out.size))
  have B72_W59 := Lib.hid (B70_W59.out.trans (hb.mono B70_W59.out.size))
  clear CC hb
  rw [Ty.sameB_of (HPR.out)]
  go_wp2_with fail
  go_ret
  exact ⟨rfl, HBW.out.trans (B72_W.out.mono HBW.out.size)⟩

set_option maxRecDepth 100000 in
theorem walk {H : Type} {enc : TypeId × Value → H} {W : World} {base : Nat} {args : Array Value} {ds : List (DataW H)} {ps : List MemPlace}
    (h : Handed enc Tryz.prog W base Tryz.f6.params.toList args ds ps) : Calls Tryz.prog 6 args W fun e w' => TrueBelow W e w' := by
  rw [Tryz.params6] at h
  have hval := h.val
  obtain ⟨v0, vs0, d0, ds0, p0, q0, hargs, rfl, rfl, h0, r0⟩ := trodAll_cons h.trod
  obtain ⟨v1, vs1, d1, ds1, p1, q1, rfl, rfl, rfl, h1, r1⟩ := trodAll_cons r0
  obtain ⟨v2, vs2, d2, ds2, p2, q2, rfl, rfl, rfl, h2, r2⟩ := trodAll_cons r1
  obtain ⟨rfl, rfl, rfl⟩ := trodAll_nil r2
  obtain rfl : args = #[v0, v1, v2] := by cases args; simp_all
  have hv0 := hval 0 36 v0 rfl rfl
  unfold Value.okWide at hv0
  rw [Tryz.underlying36] at hv0
  obtain ⟨cs0, he0, _⟩ := hv0
  have hv1 := hval 1 36 v1 rfl rfl
  unfold Value.okWide at hv1
  rw [Tryz.underlying36] at hv1
  obtain ⟨cs1, he1, _⟩ := hv1
  have hv2 := hval 2 36 v2 rfl rfl
  unfold Value.okWide at hv2
  rw [Tryz.underlying36] at hv2
  obtain ⟨cs2, he2, _⟩ := hv2
  obtain ⟨a, rfl, ha⟩ := arg_ty he0 h0 0 h.fits rfl rfl
  obtain ⟨b, rfl, hb⟩ := arg_ty he1 h1 1 h.fits rfl rfl
  obtain ⟨c, rfl, hc⟩ := arg_ty he2 h2 2 h.fits rfl rfl
  exact law_any a b c W ha hb hc


set_option maxRecDepth 100000 in
theorem lifted (os : Os) (started : os.Started) (H : Type) (enc : TypeId × Value → H) :
    ReturnsInHanded {} Tryz.checked os 6 .any (Rows.typesLawsSpec.pre6 enc Tryz.prog Tryz.f6 Rows.typesLawsRow.domain false) (Rows.typesLawsSpec.post enc Tryz.prog Tryz.f6 false true false false) := by
  refine returnsInHanded_of_change_sized (C := Tryz.checked) own started (by kernel_rfl) Tryz.func6
    (ChangeSpec.witness6 (enc := enc) (C := Tryz.checked) false ⟨#[], #[.agg #[.int .i64 0, .slice none 0 0, .slice none 0 0], .agg #[.int .i64 0, .slice none 0 0, .slice none 0 0], .agg #[.int .i64 0, .slice none 0 0, .slice none 0 0]], []⟩ 8 (by kernel_rfl) (by kernel_rfl) (by kernel_rfl) (by kernel_rfl)) ?_
  intro W base args ds gs before hval hW _ hsz _
  refine (walk (handed_of hval hW rfl rfl hsz)).mono fun e W' ⟨he, hb⟩ => ?_
  subst he
  exact ⟨_, rfl, law_post hW rfl laidOut (by kernel_rfl) rfl Tryz.underlying4 (fun ds' h => by match ds', h with | [_, _, _], _ => rfl) hb⟩

theorem over : Rows.typesLawsRow.holds Tryz.pinned (OpenSpec.ofChange Rows.typesLawsSpec) :=
  OpenClaim.holds_of_wide 6 Tryz.f6 rfl rfl rfl rfl rfl rfl rfl ⟨rfl, rfl, rfl, rfl, rfl⟩ rfl rfl rfl rfl rfl (by kernel_rfl) Tryz.func6 (by kernel_rfl)
    (of_decide_eq_true (by kernel_rfl)) (by unfold Func.isWrapper; first | (rw [if_pos (by decide +kernel)]; kernel_rfl) | (rw [if_neg (by decide +kernel)]; exact ⟨rfl, rfl⟩))
    (fun os started H enc _ => lifted os started H enc)

theorem proved : Rows.TypesLawsSaid :=
  over
#print axioms proved
end Go.Proofs.YtjpdbhhjlnmacaaGreat.typesLaws
