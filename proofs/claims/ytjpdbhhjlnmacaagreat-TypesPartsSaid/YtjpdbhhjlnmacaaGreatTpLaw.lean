/- A list of one expression has the type of a list of its type; what a record's field is has the type that it was made with. No conditions. -/
import Derived.Test.YtjpdbhhjlnmacaaGreatTpM53
import Derived.BigQuiet
import Derived.Deep.RegionHeld3
namespace Go.Proofs.YtjpdbhhjlnmacaaGreat.typesParts
set_option linter.unusedVariables false
open Go.RowKit Go.ChangeShapes Go.WideShapes

theorem cells3 {W : World} {Q : Nat} {T : TypeId} {v0 v1 v2 : Value} (h : Blk W Q T #[v0, v1, v2]) : ∀ W', Below W.heap.size W W' → W'.cell? ⟨Q, 0, none⟩ = some v0 ∧ W'.cell? ⟨Q, 1, none⟩ = some v1 ∧ W'.cell? ⟨Q, 2, none⟩ = some v2 := fun W' hb =>
  ⟨(h.below hb h.lt).cell 0, (h.below hb h.lt).cell 1, (h.below hb h.lt).cell 2⟩
/-- What a list's type leads to. -/
theorem list_item {w : World} {u t : Ty} (hu : u.In w) (he : u.erase = .mk 5 .no [] .no [t]) : u.k = 5 ∧ ∃ b o c, u.xa.val u.xs.length = .slice (some ⟨b, o, none⟩) 1 c ∧ 1 ≤ c ∧ ∃ y : Ty, PTy w b o y ∧ y.erase = t := by
  rw [Ty.erase_eq] at he
  injection he with h1 h2 h3 h4 h5
  have hl : u.xs.length = 1 := by have := congrArg List.length h5; simpa using this
  refine ⟨h1, ?_⟩
  obtain ⟨p, c, e, h⟩ := titems_at hu
  obtain ⟨b, o, rfl, hp, hc⟩ := h 0 (by omega)
  refine ⟨b, o, c, by rw [e, hl], by omega, u.xs[0], by simpa using hp, ?_⟩
  have h6 : (u.xs.map Ty.erase)[0]? = some t := by rw [h5]; rfl
  rw [List.getElem?_map, List.getElem?_eq_getElem (by omega)] at h6
  simpa using h6

set_option maxHeartbeats 16000000 in
set_option maxRecDepth 100000 in
theorem law_any (x : Exp) (vs : List Var) (vp : Option Addr) (vc : Nat) (w : World) (hx : x.In w) (hv : VarsIn w vp vc vs) : Calls Tryz.prog 4 #[x.agg, .slice vp vs.length vc] w fun e w' => TrueBelow w e w' := by
  obtain ⟨W, hW⟩ : ∃ W, W = w.alloc (.cells #[.int .i64 x.k, .string x.s, .int .i64 x.v.k, .int .i64 x.v.n, .float .f64 x.v.f, .string x.v.s, x.v.na.val x.v.ns.length, x.v.xa.val x.v.xs.length, x.na.val x.ns.length, x.xa.val x.xs.length] 29) := ⟨_, rfl⟩
  have hBW : Below w.heap.size w W := by rw [hW]; exact ((Below.refl _ w).alloc (by simp; try omega) _)
  have bk_x : Blk W (w.heap.size) 29 #[.int .i64 x.k, .string x.s, .int .i64 x.v.k, .int .i64 x.v.n, .float .f64 x.v.f, .string x.v.s, x.v.na.val x.v.ns.length, x.v.xa.val x.v.xs.length, x.na.val x.ns.length, x.xa.val x.xs.length] := by
    have h0 := Blk.new w 29 #[.int .i64 x.k, .string x.s, .int .i64 x.v.k, .int .i64 x.v.n, .float .f64 x.v.f, .string x.v.s, x.v.na.val x.v.ns.length, x.v.xa.val x.v.xs.length, x.na.val x.ns.length, x.xa.val x.xs.length]
    rw [hW]
    exact h0
  obtain ⟨xa6, xb6, xf6⟩ := hx.val.nslice
  obtain ⟨xa7, xb7, xf7⟩ := hx.val.xslice
  obtain ⟨xa8, xb8, xf8⟩ := hx.nslice
  obtain ⟨xa9, xb9, xf9⟩ := hx.xslice
  obtain ⟨A, hA⟩ : ∃ A, A = w.heap.size := ⟨_, rfl⟩
  rw [← hA] at bk_x
  rw [xf6, xf7, xf8, xf9] at bk_x hW
  have HC_x := Lib.hid (cells10 bk_x)
  have IN_x := Lib.hid (fun (W' : World) (h : Below W.heap.size W W') => (hx.below hBW).below h)
  have AG_x : Hid (x.agg = .agg #[.int .i64 x.k, .string x.s, .int .i64 x.v.k, .int .i64 x.v.n, .float .f64 x.v.f, .string x.v.s, .slice xa6 x.v.ns.length xb6, .slice xa7 x.v.xs.length xb7, .slice xa8 x.ns.length xb8, .slice xa9 x.xs.length xb9]) := Lib.hid (by unfold Exp.agg; rw [xf6, xf7, xf8, xf9])
  rw [AG_x.out]
  have BR_W := Lib.hid (Below.refl W.heap.size W)
  have hvW := hv.below hBW
  have HW := Lib.hid hW; have HA := Lib.hid hA; have HBW := Lib.hid hBW
  clear hv hW hA hBW bk_x xf6 xf7 xf8 xf9 hx
  have HAW := Lib.hid awake09_any
  have HV := Lib.hid (fun (W' : World) (h : Below W.heap.size W W') => hvW.below h)
  clear hvW
  have hsf := run_store_flt
  go_enter Tryz.func4, Tryz.ntmps4
  go_upto_region 1 with fail
  rw [← HW.out, ← HA.out]
  have hcc := HAW.out W
  have CC := Lib.hid hcc
  clear hcc
  go_wp2_with fail
  refine CC.out.mono ?_
  rintro e w1 ⟨rfl, hb⟩
  have B2_W := Lib.hid (BR_W.out.trans (hb.mono BR_W.out.size))
  clear CC hb
  have hcc := xsmall_any x.sz x w1 (Nat.le_refl _) (IN_x.out _ B2_W.out)
  rw [AG_x.out] at hcc
  have CC := Lib.hid hcc
  clear hcc
  obtain ⟨x0_, x1_, x2_, x3_, x4_, x5_, x6_, x7_, x8_, x9_⟩ := HC_x.out _ B2_W.out
  go_wp2_with fail
  refine CC.out.mono ?_
  rintro e w3 ⟨rfl, hb⟩
  clear x0_ x1_ x2_ x3_ x4_ x5_ x6_ x7_ x8_ x9_
  have B4_W := Lib.hid (B2_W.out.trans (hb.mono B2_W.out.size))
  clear CC hb
  cases hr : x.smallB with
  | false =>
    clear hr
    have hcc := HAW.out w3
    have CC := Lib.hid hcc
    clear hcc
    go_wp2_with fail
    refine CC.out.mono ?_
    rintro e w5 ⟨rfl, hb⟩
    have B6_W := Lib.hid (B4_W.out.trans (hb.mono B4_W.out.size))
    clear CC hb
    go_wp2_with fail
    go_ret
    exact ⟨rfl, HBW.out.trans (B6_W.out.mono HBW.out.size)⟩
  | true =>
  clear hr
  have hcc := vsmall_any vs vp vc w3 (HV.out _ B4_W.out)
  have CC := Lib.hid hcc
  clear hcc
  go_wp2_with fail
  refine CC.out.mono ?_
  rintro e w7 ⟨rfl, hb⟩
  have B8_W := Lib.hid (B4_W.out.trans (hb.mono B4_W.out.size))
  clear CC hb
  cases hr : varsSmallB vs with
  | false =>
    clear hr
    have hcc := HAW.out w7
    have CC := Lib.hid hcc
    clear hcc
    go_wp2_with fail
    refine CC.out.mono ?_
    rintro e w9 ⟨rfl, hb⟩
    have B10_W := Lib.hid (B8_W.out.trans (hb.mono B8_W.out.size))
    clear CC hb
    go_wp2_with fail
    go_ret
    exact ⟨rfl, HBW.out.trans (B10_W.out.mono HBW.out.size)⟩
  | true =>
  clear hr
  have hcc := checked_both x vs vp vc w7 (IN_x.out _ B8_W.out) (HV.out _ B8_W.out)
  rw [AG_x.out] at hcc
  have CC := Lib.hid hcc
  clear hcc
  obtain ⟨x0_, x1_, x2_, x3_, x4_, x5_, x6_, x7_, x8_, x9_⟩ := HC_x.out _ B8_W.out
  go_wp2_with fail
  refine CC.out.mono ?_
  rintro e w11 ⟨t, kt, rfl, hin_t, hans_t, hb⟩
  clear x0_ x1_ x2_ x3_ x4_ x5_ x6_ x7_ x8_ x9_
  have B12_W := Lib.hid (B8_W.out.trans (hb.mono B8_W.out.size))
  clear CC hb
  have CA_t := Lib.hid hans_t
  clear hans_t
  obtain ⟨ta4, tb4, tf4⟩ := hin_t.nslice
  obtain ⟨ta5, tb5, tf5⟩ := hin_t.xslice
  obtain ⟨W13, hWk⟩ : ∃ X, X = w11.alloc (.cells #[.int .i64 t.k, .slice ta4 t.ns.length tb4, .slice ta5 t.xs.length tb5] 36) := ⟨_, rfl⟩
  obtain ⟨Qt, hQk⟩ : ∃ X, X = w11.heap.size := ⟨_, rfl⟩
  have hbk : Below w11.heap.size w11 W13 := by rw [hWk]; exact (Below.refl _ _).alloc (Nat.le_refl _) _
  have hblk : Blk W13 Qt 36 #[.int .i64 t.k, .slice ta4 t.ns.length tb4, .slice ta5 t.xs.length tb5] := by rw [hWk, hQk]; exact Blk.new w11 36 _
  have HC_t := Lib.hid (cells3 hblk)
  have IN_t := Lib.hid (fun (W' : World) (h : Below W13.heap.size W13 W') => (hin_t.below hbk).below h)
  have AG_t : Hid (t.agg = .agg #[.int .i64 t.k, .slice ta4 t.ns.length tb4, .slice ta5 t.xs.length tb5]) := Lib.hid (by unfold Ty.agg; rw [tf4, tf5])
  rw [AG_t.out]
  have HWk := Lib.hid hWk; have HQk := Lib.hid hQk
  have B14_W := Lib.hid (B12_W.out.trans (hbk.mono B12_W.out.size))
  have BR_W13 := Lib.hid (Below.refl W13.heap.size W13)
  clear hblk hbk hWk hQk tf4 tf5 hin_t
  go_upto_region 4 with fail
  rw [← HWk.out, ← HQk.out]
  clear HWk HQk
  obtain ⟨G1, hG1⟩ : ∃ G, G = W13.heap.size := ⟨_, rfl⟩
  obtain ⟨WA, hWA⟩ : ∃ X, X = W13.alloc (.cells #[.int .i64 x.k, .string x.s, .int .i64 x.v.k, .int .i64 x.v.n, .float .f64 x.v.f, .string x.v.s, .slice xa6 x.v.ns.length xb6, .slice xa7 x.v.xs.length xb7, .slice xa8 x.ns.length xb8, .slice xa9 x.xs.length xb9] 29) := ⟨_, rfl⟩
  have hzA : WA.heap.size = G1 + 1 := by rw [hWA, hG1]; simp
  have hbA : Below W13.heap.size W13 WA := by rw [hWA]; exact (Below.refl _ _).alloc (Nat.le_refl _) _
  have hblA : Blk WA G1 29 #[.int .i64 x.k, .string x.s, .int .i64 x.v.k, .int .i64 x.v.n, .float .f64 x.v.f, .string x.v.s, .slice xa6 x.v.ns.length xb6, .slice xa7 x.v.xs.length xb7, .slice xa8 x.ns.length xb8, .slice xa9 x.xs.length xb9] := by rw [hWA, hG1]; exact Blk.new W13 29 _
  obtain ⟨WL, hWL⟩ : ∃ X, X = WA.alloc (.cells #[.int .i64 16, .string ⟨#[]⟩, .int .i64 0, .int .i64 0, .float .f64 0, .string ⟨#[]⟩, .slice none 0 0, .slice none 0 0, .slice none 0 0, .slice (some ⟨G1, 0, none⟩) 1 1] 29) := ⟨_, rfl⟩
  obtain ⟨QL, hQL⟩ : ∃ X, X = G1 + 1 := ⟨_, rfl⟩
  have hbL : Below WA.heap.size WA WL := by rw [hWL]; exact (Below.refl _ _).alloc (Nat.le_refl _) _
  have hb : Below W13.heap.size W13 WL := hbA.trans (hbL.mono hbA.size)
  have hblL : Blk WL QL 29 #[.int .i64 16, .string ⟨#[]⟩, .int .i64 0, .int .i64 0, .float .f64 0, .string ⟨#[]⟩, .slice none 0 0, .slice none 0 0, .slice none 0 0, .slice (some ⟨G1, 0, none⟩) 1 1] := by rw [hWL, hQL, ← hzA]; exact Blk.new WA 29 _
  have hxc : x.cells.toArray = #[.int .i64 x.k, .string x.s, .int .i64 x.v.k, .int .i64 x.v.n, .float .f64 x.v.f, .string x.v.s, .slice xa6 x.v.ns.length xb6, .slice xa7 x.v.xs.length xb7, .slice xa8 x.ns.length xb8, .slice xa9 x.xs.length xb9] := by
    have h := AG_x.out
    unfold Exp.agg at h
    unfold Exp.cells
    injection h
  have HXCL := Lib.hid hxc
  have hxL : x.In WL := ((IN_x.out _ (B14_W.out)).below hb)
  obtain ⟨L, hL⟩ : ∃ L, L = Exp.mk 16 ⟨#[]⟩ Val.zero .no [] (.at_ G1 0 1) [x] := ⟨_, rfl⟩
  have hinL : L.In WL := by rw [hL]; exact one_in (by unfold i64r; decide) (by show (⟨#[]⟩ : ByteArray).size ≤ _; decide) (by simp) (fun s h => by simp at h) rfl hxL (by rw [hxc]; exact hblA.below hbL hblA.lt)
  have HLE := Lib.hid hL
  have HC_L := Lib.hid (cells10 hblL)
  have IN_L := Lib.hid (fun (W' : World) (h : Below WL.heap.size WL W') => hinL.below h)
  have AG_L : Hid (L.agg = .agg #[.int .i64 16, .string ⟨#[]⟩, .int .i64 0, .int .i64 0, .float .f64 0, .string ⟨#[]⟩, .slice none 0 0, .slice none 0 0, .slice none 0 0, .slice (some ⟨G1, 0, none⟩) 1 1]) := Lib.hid (by rw [hL]; rfl)
  have HWA := Lib.hid hWA; have HWL := Lib.hid hWL; have HQL := Lib.hid hQL; have HG1 := Lib.hid hG1
  obtain ⟨x0_, x1_, x2_, x3_, x4_, x5_, x6_, x7_, x8_, x9_⟩ := HC_x.out _ B14_W.out
  have B16_W := Lib.hid (B14_W.out.trans (hb.mono B14_W.out.size))
  have B16_W13 := Lib.hid (BR_W13.out.trans (hb.mono BR_W13.out.size))
  have BR_WL := Lib.hid (Below.refl WL.heap.size WL)
  clear hG1 hWA hzA hbA hblA hWL hQL hbL hb hblL hxc hxL hL hinL
  go_upto_region 5 with fail
  rw [← HG1.out, ← HWA.out, ← HWL.out, ← HQL.out]
  clear x0_ x1_ x2_ x3_ x4_ x5_ x6_ x7_ x8_ x9_
  clear HWA HWL HQL HG1
  obtain ⟨g1, hg1⟩ : ∃ G, G = WL.heap.size := ⟨_, rfl⟩
  obtain ⟨V1, hV1⟩ : ∃ X, X = WL.alloc (.cells #[.string ⟨#[97]⟩] 9) := ⟨_, rfl⟩
  have hy1 : Below WL.heap.size WL V1 := by rw [hV1]; exact (Below.refl _ _).alloc (Nat.le_refl _) _
  have hc1 : Blk V1 g1 9 #[.string ⟨#[97]⟩] := by rw [hV1, hg1]; exact Blk.new WL 9 _
  obtain ⟨g2, hg2⟩ : ∃ G, G = g1 + 1 := ⟨_, rfl⟩
  have hz1 : V1.heap.size = g2 := by rw [hV1, hg2, hg1]; simp
  obtain ⟨V2, hV2⟩ : ∃ X, X = V1.alloc (.cells #[.int .i64 x.k, .string x.s, .int .i64 x.v.k, .int .i64 x.v.n, .float .f64 x.v.f, .string x.v.s, .slice xa6 x.v.ns.length xb6, .slice xa7 x.v.xs.length xb7, .slice xa8 x.ns.length xb8, .slice xa9 x.xs.length xb9] 29) := ⟨_, rfl⟩
  have hy2 : Below V1.heap.size V1 V2 := by rw [hV2]; exact (Below.refl _ _).alloc (Nat.le_refl _) _
  have hc2 : Blk V2 g2 29 #[.int .i64 x.k, .string x.s, .int .i64 x.v.k, .int .i64 x.v.n, .float .f64 x.v.f, .string x.v.s, .slice xa6 x.v.ns.length xb6, .slice xa7 x.v.xs.length xb7, .slice xa8 x.ns.length xb8, .slice xa9 x.xs.length xb9] := by rw [hV2, ← hz1]; exact Blk.new V1 29 _
  obtain ⟨g3, hg3⟩ : ∃ G, G = g2 + 1 := ⟨_, rfl⟩
  have hz2 : V2.heap.size = g3 := by rw [hV2, hg3]; simp [hz1]
  obtain ⟨V3, hV3⟩ : ∃ X, X = V2.alloc (.cells #[.int .i64 17, .string ⟨#[]⟩, .int .i64 0, .int .i64 0, .float .f64 0, .string ⟨#[]⟩, .slice none 0 0, .slice none 0 0, .slice (some ⟨g1, 0, none⟩) 1 1, .slice (some ⟨g2, 0, none⟩) 1 1] 29) := ⟨_, rfl⟩
  have hy3 : Below V2.heap.size V2 V3 := by rw [hV3]; exact (Below.refl _ _).alloc (Nat.le_refl _) _
  have hc3 : Blk V3 g3 29 #[.int .i64 17, .string ⟨#[]⟩, .int .i64 0, .int .i64 0, .float .f64 0, .string ⟨#[]⟩, .slice none 0 0, .slice none 0 0, .slice (some ⟨g1, 0, none⟩) 1 1, .slice (some ⟨g2, 0, none⟩) 1 1] := by rw [hV3, ← hz2]; exact Blk.new V2 29 _
  obtain ⟨QF, hQF⟩ : ∃ G, G = g3 + 1 := ⟨_, rfl⟩
  have hz3 : V3.heap.size = QF := by rw [hV3, hQF]; simp [hz2]
  obtain ⟨WF, hWF⟩ : ∃ X, X = V3.alloc (.cells #[.int .i64 18, .string ⟨#[97]⟩, .int .i64 0, .int .i64 0, .float .f64 0, .string ⟨#[]⟩, .slice none 0 0, .slice none 0 0, .slice none 0 0, .slice (some ⟨g3, 0, none⟩) 1 1] 29) := ⟨_, rfl⟩
  have hy4 : Below V3.heap.size V3 WF := by rw [hWF]; exact (Below.refl _ _).alloc (Nat.le_refl _) _
  have hblF : Blk WF QF 29 #[.int .i64 18, .string ⟨#[97]⟩, .int .i64 0, .int .i64 0, .float .f64 0, .string ⟨#[]⟩, .slice none 0 0, .slice none 0 0, .slice none 0 0, .slice (some ⟨g3, 0, none⟩) 1 1] := by rw [hWF, ← hz3]; exact Blk.new V3 29 _
  have hy34 : Below V2.heap.size V2 WF := hy3.trans (hy4.mono hy3.size)
  have hy24 : Below V1.heap.size V1 WF := hy2.trans (hy34.mono hy2.size)
  have hb : Below WL.heap.size WL WF := hy1.trans (hy24.mono hy1.size)
  have hxF : x.In WF := ((IN_x.out _ (B16_W.out)).below hb)
  have hxr : x.cells.toArray = #[.int .i64 x.k, .string x.s, .int .i64 x.v.k, .int .i64 x.v.n, .float .f64 x.v.f, .string x.v.s, .slice xa6 x.v.ns.length xb6, .slice xa7 x.v.xs.length xb7, .slice xa8 x.ns.length xb8, .slice xa9 x.xs.length xb9] := HXCL.out
  obtain ⟨R, hR⟩ : ∃ R, R = Exp.mk 17 ⟨#[]⟩ Val.zero (.at_ g1 0 1) [⟨#[97]⟩] (.at_ g2 0 1) [x] := ⟨_, rfl⟩
  have hinR : R.In WF := by
    rw [hR]
    refine one_in (by unfold i64r; decide) (by show (⟨#[]⟩ : ByteArray).size ≤ _; decide) (by simp) (fun s h => ?_) ⟨Nat.le_refl _, by omega, fun i hi j hj => ⟨?_, ?_⟩⟩ hxF (by rw [hxr]; exact hc2.below hy34 hc2.lt)
    · obtain rfl : s = ⟨#[97]⟩ := by simpa using h
      exact strok1 _
    · obtain rfl : i = 0 := by have : i < 1 := hi; omega
      obtain rfl : j = 0 := by omega
      rw [show 0 + (0 * 1 + 0) = 0 by omega, (hc1.below hy24 hc1.lt).cell]
      rfl
    · exact (hc1.below hy24 hc1.lt).lt
  have hrc : R.cells.toArray = #[.int .i64 17, .string ⟨#[]⟩, .int .i64 0, .int .i64 0, .float .f64 0, .string ⟨#[]⟩, .slice none 0 0, .slice none 0 0, .slice (some ⟨g1, 0, none⟩) 1 1, .slice (some ⟨g2, 0, none⟩) 1 1] := by rw [hR]; rfl
  obtain ⟨F, hF⟩ : ∃ F, F = Exp.mk 18 ⟨#[97]⟩ Val.zero .no [] (.at_ g3 0 1) [R] := ⟨_, rfl⟩
  have hinF : F.In WF := by rw [hF]; exact one_in (by unfold i64r; decide) (strok1 _) (by simp) (fun s h => by simp at h) rfl hinR (by rw [hrc]; exact hc3.below hy4 hc3.lt)
  have HFE : Hid (F = Exp.mk 18 ⟨#[97]⟩ Val.zero .no [] (.at_ g3 0 1) [.mk 17 ⟨#[]⟩ Val.zero (.at_ g1 0 1) [⟨#[97]⟩] (.at_ g2 0 1) [x]]) := Lib.hid (by rw [hF, hR])
  have HC_F := Lib.hid (cells10 hblF)
  have IN_F := Lib.hid (fun (W' : World) (h : Below WF.heap.size WF W') => hinF.below h)
  have AG_F : Hid (F.agg = .agg #[.int .i64 18, .string ⟨#[97]⟩, .int .i64 0, .int .i64 0, .float .f64 0, .string ⟨#[]⟩, .slice none 0 0, .slice none 0 0, .slice none 0 0, .slice (some ⟨g3, 0, none⟩) 1 1]) := Lib.hid (by rw [hF]; rfl)
  have K1 := Lib.hid hg1; have K2 := Lib.hid hV1; have K3 := Lib.hid hg2; have K4 := Lib.hid hV2; have K5 := Lib.hid hg3; have K6 := Lib.hid hV3; have K7 := Lib.hid hQF; have K8 := Lib.hid hWF
  obtain ⟨x0_, x1_, x2_, x3_, x4_, x5_, x6_, x7_, x8_, x9_⟩ := HC_x.out _ B16_W.out
  have hAl : A < WL.heap.size := cell_lt x0_
  have B17_W := Lib.hid (B16_W.out.trans (hb.mono B16_W.out.size))
  have B17_W13 := Lib.hid (B16_W13.out.trans (hb.mono B16_W13.out.size))
  have B17_WL := Lib.hid (BR_WL.out.trans (hb.mono BR_WL.out.size))
  have BR_WF := Lib.hid (Below.refl WF.heap.size WF)
  clear hg1 hV1 hy1 hc1 hz1 hg2 hV2 hy2 hc2 hz2 hg3 hV3 hy3 hc3 hz3 hQF hWF hy4 hblF hy34 hy24 hb hxF hxr hR hinR hrc hF hinF
  go_upto_region 6 with fail
  rw [← K1.out, ← K2.out, ← K3.out, ← K4.out, ← K5.out, ← K6.out, ← K8.out, ← K7.out]
  clear x0_ x1_ x2_ x3_ x4_ x5_ x6_ x7_ x8_ x9_
  clear hAl K1 K2 K3 K4 K5 K6 K7 K8
  have hcc := checked_both L vs vp vc WF (IN_L.out _ B17_WL.out) (HV.out _ B17_W.out)
  rw [AG_L.out] at hcc
  have CC := Lib.hid hcc
  clear hcc
  obtain ⟨L0_, L1_, L2_, L3_, L4_, L5_, L6_, L7_, L8_, L9_⟩ := HC_L.out _ B17_WL.out
  go_wp2_with fail
  refine CC.out.mono ?_
  rintro e w18 ⟨u, ku, rfl, hin_u, hans_u, hb⟩
  clear L0_ L1_ L2_ L3_ L4_ L5_ L6_ L7_ L8_ L9_
  have B19_W := Lib.hid (B17_W.out.trans (hb.mono B17_W.out.size))
  have B19_W13 := Lib.hid (B17_W13.out.trans (hb.mono B17_W13.out.size))
  have B19_WL := Lib.hid (B17_WL.out.trans (hb.mono B17_WL.out.size))
  have B19_WF := Lib.hid (BR_WF.out.trans (hb.mono BR_WF.out.size))
  clear CC hb
  have CA_u := Lib.hid hans_u
  clear hans_u
  obtain ⟨ua4, ub4, uf4⟩ := hin_u.nslice
  obtain ⟨ua5, ub5, uf5⟩ := hin_u.xslice
  obtain ⟨W20, hWk⟩ : ∃ X, X = w18.alloc (.cells #[.int .i64 u.k, .slice ua4 u.ns.length ub4, .slice ua5 u.xs.length ub5] 36) := ⟨_, rfl⟩
  obtain ⟨Qu, hQk⟩ : ∃ X, X = w18.heap.size := ⟨_, rfl⟩
  have hbk : Below w18.heap.size w18 W20 := by rw [hWk]; exact (Below.refl _ _).alloc (Nat.le_refl _) _
  have hblk : Blk W20 Qu 36 #[.int .i64 u.k, .slice ua4 u.ns.length ub4, .slice ua5 u.xs.length ub5] := by rw [hWk, hQk]; exact Blk.new w18 36 _
  have HC_u := Lib.hid (cells3 hblk)
  have IN_u := Lib.hid (fun (W' : World) (h : Below W20.heap.size W20 W') => (hin_u.below hbk).below h)
  have AG_u : Hid (u.agg = .agg #[.int .i64 u.k, .slice ua4 u.ns.length ub4, .slice ua5 u.xs.length ub5]) := Lib.hid (by unfold Ty.agg; rw [uf4, uf5])
  rw [AG_u.out]
  have HWk := Lib.hid hWk; have HQk := Lib.hid hQk
  have B21_W := Lib.hid (B19_W.out.trans (hbk.mono B19_W.out.size))
  have B21_W13 := Lib.hid (B19_W13.out.trans (hbk.mono B19_W13.out.size))
  have B21_WL := Lib.hid (B19_WL.out.trans (hbk.mono B19_WL.out.size))
  have B21_WF := Lib.hid (B19_WF.out.trans (hbk.mono B19_WF.out.size))
  have BR_W20 := Lib.hid (Below.refl W20.heap.size W20)
  clear hblk hbk hWk hQk uf4 uf5 hin_u
  go_upto_region 7 with fail
  rw [← HWk.out, ← HQk.out]
  clear HWk HQk
  have hcc := checked_both F vs vp vc W20 (IN_F.out _ B21_WF.out) (HV.out _ B21_W.out)
  rw [AG_F.out] at hcc
  have CC := Lib.hid hcc
  clear hcc
  obtain ⟨F0_, F1_, F2_, F3_, F4_, F5_, F6_, F7_, F8_, F9_⟩ := HC_F.out _ B21_WF.out
  go_wp2_with fail
  refine CC.out.mono ?_
  rintro e w22 ⟨v, kv, rfl, hin_v, hans_v, hb⟩
  clear F0_ F1_ F2_ F3_ F4_ F5_ F6_ F7_ F8_ F9_
  have B23_W := Lib.hid (B21_W.out.trans (hb.mono B21_W.out.size))
  have B23_W13 := Lib.hid (B21_W13.out.trans (hb.mono B21_W13.out.size))
  have B23_WL := Lib.hid (B21_WL.out.trans (hb.mono B21_WL.out.size))
  have B23_WF := Lib.hid (B21_WF.out.trans (hb.mono B21_WF.out.size))
  have B23_W20 := Lib.hid (BR_W20.out.trans (hb.mono BR_W20.out.size))
  clear CC hb
  have CA_v := Lib.hid hans_v
  clear hans_v
  obtain ⟨va4, vb4, vf4⟩ := hin_v.nslice
  obtain ⟨va5, vb5, vf5⟩ := hin_v.xslice
  obtain ⟨W24, hWk⟩ : ∃ X, X = w22.alloc (.cells #[.int .i64 v.k, .slice va4 v.ns.length vb4, .slice va5 v.xs.length vb5] 36) := ⟨_, rfl⟩
  obtain ⟨Qv, hQk⟩ : ∃ X, X = w22.heap.size := ⟨_, rfl⟩
  have hbk : Below w22.heap.size w22 W24 := by rw [hWk]; exact (Below.refl _ _).alloc (Nat.le_refl _) _
  have hblk : Blk W24 Qv 36 #[.int .i64 v.k, .slice va4 v.ns.length vb4, .slice va5 v.xs.length vb5] := by rw [hWk, hQk]; exact Blk.new w22 36 _
  have HC_v := Lib.hid (cells3 hblk)
  have IN_v := Lib.hid (fun (W' : World) (h : Below W24.heap.size W24 W') => (hin_v.below hbk).below h)
  have AG_v : Hid (v.agg = .agg #[.int .i64 v.k, .slice va4 v.ns.length vb4, .slice va5 v.xs.length vb5]) := Lib.hid (by unfold Ty.agg; rw [vf4, vf5])
  rw [AG_v.out]
  have HWk := Lib.hid hWk; have HQk := Lib.hid hQk
  have B25_W := Lib.hid (B23_W.out.trans (hbk.mono B23_W.out.size))
  have B25_W13 := Lib.hid (B23_W13.out.trans (hbk.mono B23_W13.out.size))
  have B25_WL := Lib.hid (B23_WL.out.trans (hbk.mono B23_WL.out.size))
  have B25_WF := Lib.hid (B23_WF.out.trans (hbk.mono B23_WF.out.size))
  have B25_W20 := Lib.hid (B23_W20.out.trans (hbk.mono B23_W20.out.size))
  have BR_W24 := Lib.hid (Below.refl W24.heap.size W24)
  clear hblk hbk hWk hQk vf4 vf5 hin_v
  go_upto_region 8 with fail
  rw [← HWk.out, ← HQk.out]
  clear HWk HQk
  have HALL : Hid ((kt ≠ 0 ∧ ku ≠ 0 ∧ kv ≠ 0) ∨ (kt = 0 ∧ (ku ≠ 0 ∨ (ku = 0 ∧ u.erase = .mk 5 .no [] .no [t.erase])) ∧ (kv ≠ 0 ∨ (kv = 0 ∧ v.erase = t.erase)))) := Lib.hid (by
    have hl := HLE.out
    have hf := HFE.out
    rcases CA_t.out with ⟨h1, h2⟩ | ⟨h1, h2, h3⟩
    · refine .inr ⟨h1, ?_, ?_⟩
      · rcases CA_u.out with ⟨g1', g2'⟩ | ⟨g1', g2', g3'⟩
        · rcases parts_list (xa := .at_ G1 0 1) h2 with h | ⟨k, h, hk⟩
          · rw [hl, h] at g2'
            injection g2' with g2'
            rw [Ty.ee] at g2'
            exact .inr ⟨g1', g2'.symm⟩
          · rw [hl, h] at g2'; cases g2'
        · exact .inl g1'
      · rcases CA_v.out with ⟨g1', g2'⟩ | ⟨g1', g2', g3'⟩
        · rcases parts_field (na := .at_ g1 0 1) (xa := .at_ g2 0 1) (xb := .at_ g3 0 1) h2 with ⟨v', h, hv'⟩ | ⟨k, h, hk⟩
          · rw [hf, h] at g2'
            injection g2' with g2'
            rw [g2', Ty.ee, Ty.ee] at hv'
            exact .inr ⟨g1', hv'⟩
          · rw [hf, h] at g2'; cases g2'
        · exact .inl g1'
    · refine .inl ⟨h1, ?_, ?_⟩
      · obtain ⟨k2, h4, h5⟩ := checkF_kid (v := L) (x := x) (by rw [hl]; rfl) h2
        rcases CA_u.out with ⟨g1', g2'⟩ | ⟨g1', g2', g3'⟩
        · rw [h4] at g2'; cases g2'
        · exact g1'
      · obtain ⟨k2, h4, h5⟩ := checkF_kid (v := .mk 17 ⟨#[]⟩ Val.zero (.at_ g1 0 1) [⟨#[97]⟩] (.at_ g2 0 1) [x]) (x := x) rfl h2
        obtain ⟨k3, h6, h7⟩ := checkF_kid (v := F) (by rw [hf]; rfl) h4
        rcases CA_v.out with ⟨g1', g2'⟩ | ⟨g1', g2', g3'⟩
        · rw [h6] at g2'; cases g2'
        · exact g1')
  clear CA_t CA_u CA_v HLE HFE
  rcases HALL.out with ⟨h1, h2, h3⟩ | ⟨h1, h2, h3⟩
  case inl =>
    have j1 : (kt == 0) = false := by simpa using h1
    have j2 : (kt != 0) = true := by simpa using h1
    have j3 : (ku != 0) = true := by simpa using h2
    have j4 : (kv != 0) = true := by simpa using h3
    clear h1 h2 h3 HALL
    go_wp2_with fail
    go_quiet (fail)
    obtain ⟨D26, hWd⟩ : ∃ X, X = W24.drewN nq := ⟨_, rfl⟩
    rw [← hWd]
    have hbd : Below W24.heap.size W24 D26 := by rw [hWd]; exact below_drewN (Below.refl _ _) _
    have B27_W := Lib.hid (B25_W.out.trans (hbd.mono B25_W.out.size))
    have B27_W13 := Lib.hid (B25_W13.out.trans (hbd.mono B25_W13.out.size))
    have B27_WL := Lib.hid (B25_WL.out.trans (hbd.mono B25_WL.out.size))
    have B27_WF := Lib.hid (B25_WF.out.trans (hbd.mono B25_WF.out.size))
    have B27_W20 := Lib.hid (B25_W20.out.trans (hbd.mono B25_W20.out.size))
    have B27_W24 := Lib.hid (BR_W24.out.trans (hbd.mono BR_W24.out.size))
    clear hWd hbd
    go_wp2_with fail
    go_ret
    exact ⟨rfl, HBW.out.trans (B27_W.out.mono HBW.out.size)⟩
  subst h1
  rcases h3 with h3 | ⟨rfl, h3⟩
  case inr.inl =>
    have j4 : (kv != 0) = true := by simpa using h3
    clear h3
    rcases h2 with h2 | ⟨rfl, h2⟩
    case inl =>
      have j3 : (ku == 0) = false := by simpa using h2
      clear h2 HALL
      go_wp2_with fail
      go_quiet (fail)
      obtain ⟨D28, hWd⟩ : ∃ X, X = W24.drewN nq := ⟨_, rfl⟩
      rw [← hWd]
      have hbd : Below W24.heap.size W24 D28 := by rw [hWd]; exact below_drewN (Below.refl _ _) _
      have B29_W := Lib.hid (B25_W.out.trans (hbd.mono B25_W.out.size))
      have B29_W13 := Lib.hid (B25_W13.out.trans (hbd.mono B25_W13.out.size))
      have B29_WL := Lib.hid (B25_WL.out.trans (hbd.mono B25_WL.out.size))
      have B29_WF := Lib.hid (B25_WF.out.trans (hbd.mono B25_WF.out.size))
      have B29_W20 := Lib.hid (B25_W20.out.trans (hbd.mono B25_W20.out.size))
      have B29_W24 := Lib.hid (BR_W24.out.trans (hbd.mono BR_W24.out.size))
      clear hWd hbd
      go_wp2_with fail
      go_ret
      exact ⟨rfl, HBW.out.trans (B29_W.out.mono HBW.out.size)⟩
    case inr =>
      have HUE := Lib.hid h2
      clear h2 HALL
      obtain ⟨hxk, xb, xo, xc, hxs, hxc1, hpx⟩ := list_item (IN_u.out _ B25_W20.out) HUE.out
      have hub : ua5 = some ⟨xb, xo, none⟩ ∧ u.xs.length = 1 ∧ ub5 = xc := by
        have h := AG_u.out
        unfold Ty.agg at h
        rw [hxs] at h
        injection h with h
        simp at h
        exact ⟨h.2.1.symm, h.2.2.1.symm, h.2.2.2.symm⟩
      obtain ⟨y, hpy, hye⟩ := hpx
      obtain ⟨ya4, yb4, yf4⟩ := hpy.in.nslice
      obtain ⟨ya5, yb5, yf5⟩ := hpy.in.xslice
      have y0 := hpy.c0; have y1 := hpy.c1; have y2 := hpy.c2
      rw [yf4] at y1
      rw [yf5] at y2
      have hsm := fun (W' : World) (h : Below W24.heap.size W24 W') => tsame_any y.sz y t W' (Nat.le_refl _) (hpy.in.below h) (IN_t.out _ (B25_W13.out.trans (h.mono B25_W13.out.size)))
      have hyag : y.agg = .agg #[.int .i64 y.k, .slice ya4 y.ns.length yb4, .slice ya5 y.xs.length yb5] := by unfold Ty.agg; rw [yf4, yf5]
      rw [hyag, AG_t.out, Ty.sameB_of hye] at hsm
      have hpl := hpy.2.1
      have HSM := Lib.hid (hsm W24.drew (Below.refl _ _).drew)
      obtain ⟨u0_, u1_, u2_⟩ := HC_u.out _ B25_W20.out
      obtain ⟨t0_, t1_, t2_⟩ := HC_t.out _ B25_W13.out
      rw [hub.1, hub.2.1, hub.2.2] at u2_
      rw [hxk] at u0_
      clear hub hxs hpy hye hsm hyag yf4 yf5 hxk
      have HLT : Hid (Qu < W24.heap.size ∧ xb < W24.heap.size ∧ Qt < W24.heap.size) := Lib.hid ⟨cell_lt u0_, hpl, cell_lt t0_⟩
      go_wp2_with fail
      have HS0 : Hid (W24.drew.cell? ⟨Qu, 0, none⟩ = some (.int .i64 5) ∧ W24.drew.cell? ⟨Qu, 2, none⟩ = some (.slice (some ⟨xb, xo, none⟩) 1 xc) ∧ W24.drew.cell? ⟨xb, xo, none⟩ = some (.int .i64 y.k) ∧ W24.drew.cell? ⟨xb, xo + 1, none⟩ = some (.slice ya4 y.ns.length yb4) ∧ W24.drew.cell? ⟨xb, xo + 2, none⟩ = some (.slice ya5 y.xs.length yb5) ∧ W24.drew.cell? ⟨Qt, 0, none⟩ = some (.int .i64 t.k) ∧ W24.drew.cell? ⟨Qt, 1, none⟩ = some (.slice ta4 t.ns.length tb4) ∧ W24.drew.cell? ⟨Qt, 2, none⟩ = some (.slice ta5 t.xs.length tb5)) := Lib.hid ⟨u0_, u2_, y0, y1, y2, t0_, t1_, t2_⟩
      go_region_held3 (fun X => X.cell? ⟨Qu, 0, none⟩ = some (.int .i64 5) ∧ X.cell? ⟨Qu, 2, none⟩ = some (.slice (some ⟨xb, xo, none⟩) 1 xc) ∧ X.cell? ⟨xb, xo, none⟩ = some (.int .i64 y.k) ∧ X.cell? ⟨xb, xo + 1, none⟩ = some (.slice ya4 y.ns.length yb4) ∧ X.cell? ⟨xb, xo + 2, none⟩ = some (.slice ya5 y.xs.length yb5) ∧ X.cell? ⟨Qt, 0, none⟩ = some (.int .i64 t.k) ∧ X.cell? ⟨Qt, 1, none⟩ = some (.slice ta4 t.ns.length tb4) ∧ X.cell? ⟨Qt, 2, none⟩ = some (.slice ta5 t.xs.length tb5)) (first | with_reducible exact HS0.out | with_reducible exact HS1.out | fail)
        (first
        | (go_at_call 15; refine HSM.out.mono ?_; rintro e we ⟨rfl, hbe⟩;
           have HBE := Lib.hid (show Below W24.heap.size W24 we from (Below.refl _ _).drew.trans hbe);
           have HS1 : Hid (we.cell? ⟨Qu, 0, none⟩ = some (.int .i64 5) ∧ we.cell? ⟨Qu, 2, none⟩ = some (.slice (some ⟨xb, xo, none⟩) 1 xc) ∧ we.cell? ⟨xb, xo, none⟩ = some (.int .i64 y.k) ∧ we.cell? ⟨xb, xo + 1, none⟩ = some (.slice ya4 y.ns.length yb4) ∧ we.cell? ⟨xb, xo + 2, none⟩ = some (.slice ya5 y.xs.length yb5) ∧ we.cell? ⟨Qt, 0, none⟩ = some (.int .i64 t.k) ∧ we.cell? ⟨Qt, 1, none⟩ = some (.slice ta4 t.ns.length tb4) ∧ we.cell? ⟨Qt, 2, none⟩ = some (.slice ta5 t.xs.length tb5)) := Lib.hid ⟨(HBE.out.cell (p := ⟨Qu, 0, none⟩) HLT.out.1).trans u0_, (HBE.out.cell (p := ⟨Qu, 2, none⟩) HLT.out.1).trans u2_, (HBE.out.cell (p := ⟨xb, xo, none⟩) HLT.out.2.1).trans y0, (HBE.out.cell (p := ⟨xb, xo + 1, none⟩) HLT.out.2.1).trans y1, (HBE.out.cell (p := ⟨xb, xo + 2, none⟩) HLT.out.2.1).trans y2, (HBE.out.cell (p := ⟨Qt, 0, none⟩) HLT.out.2.2).trans t0_, (HBE.out.cell (p := ⟨Qt, 1, none⟩) HLT.out.2.2).trans t1_, (HBE.out.cell (p := ⟨Qt, 2, none⟩) HLT.out.2.2).trans t2_⟩;
           clear hbe)
        | fail)
      clear u0_ u1_ u2_ t0_ t1_ t2_ y0 y1 y2 hpl
      have B30_W := Lib.hid (B25_W.out.trans (HBE.out.mono B25_W.out.size))
      have B30_W13 := Lib.hid (B25_W13.out.trans (HBE.out.mono B25_W13.out.size))
      have B30_WL := Lib.hid (B25_WL.out.trans (HBE.out.mono B25_WL.out.size))
      have B30_WF := Lib.hid (B25_WF.out.trans (HBE.out.mono B25_WF.out.size))
      have B30_W20 := Lib.hid (B25_W20.out.trans (HBE.out.mono B25_W20.out.size))
      have B30_W24 := Lib.hid (BR_W24.out.trans (HBE.out.mono BR_W24.out.size))
      go_wp2_with fail
      go_ret
      exact ⟨rfl, HBW.out.trans (B30_W.out.mono HBW.out.size)⟩
  case inr.inr =>
    have HVE := Lib.hid h3
    clear h3
    rcases h2 with h2 | ⟨rfl, h2⟩
    case inl =>
      have j3 : (ku == 0) = false := by simpa using h2
      clear h2 HALL
      go_wp2_with fail
      go_quiet (fail)
      obtain ⟨D31, hWd⟩ : ∃ X, X = W24.drewN nq := ⟨_, rfl⟩
      rw [← hWd]
      have hbd : Below W24.heap.size W24 D31 := by rw [hWd]; exact below_drewN (Below.refl _ _) _
      have B32_W := Lib.hid (B25_W.out.trans (hbd.mono B25_W.out.size))
      have B32_W13 := Lib.hid (B25_W13.out.trans (hbd.mono B25_W13.out.size))
      have B32_WL := Lib.hid (B25_WL.out.trans (hbd.mono B25_WL.out.size))
      have B32_WF := Lib.hid (B25_WF.out.trans (hbd.mono B25_WF.out.size))
      have B32_W20 := Lib.hid (B25_W20.out.trans (hbd.mono B25_W20.out.size))
      have B32_W24 := Lib.hid (BR_W24.out.trans (hbd.mono BR_W24.out.size))
      clear hWd hbd
      have hcc := tsame_any v.sz v t D31 (Nat.le_refl _) (IN_v.out _ B32_W24.out) (IN_t.out _ B32_W13.out)
      rw [AG_v.out, AG_t.out] at hcc
      have CC := Lib.hid hcc
      clear hcc
      obtain ⟨v0_, v1_, v2_⟩ := HC_v.out _ B32_W24.out
      obtain ⟨t0_, t1_, t2_⟩ := HC_t.out _ B32_W13.out
      go_wp2_with fail
      refine CC.out.mono ?_
      rintro e w33 ⟨rfl, hb⟩
      clear v0_ v1_ v2_ t0_ t1_ t2_
      have B34_W := Lib.hid (B32_W.out.trans (hb.mono B32_W.out.size))
      have B34_W13 := Lib.hid (B32_W13.out.trans (hb.mono B32_W13.out.size))
      have B34_WL := Lib.hid (B32_WL.out.trans (hb.mono B32_WL.out.size))
      have B34_WF := Lib.hid (B32_WF.out.trans (hb.mono B32_WF.out.size))
      have B34_W20 := Lib.hid (B32_W20.out.trans (hb.mono B32_W20.out.size))
      have B34_W24 := Lib.hid (B32_W24.out.trans (hb.mono B32_W24.out.size))
      clear CC hb
      rw [Ty.sameB_of HVE.out]
      go_wp2_with fail
      go_ret
      exact ⟨rfl, HBW.out.trans (B34_W.out.mono HBW.out.size)⟩
    case inr =>
      have HUE := Lib.hid h2
      clear h2 HALL
      obtain ⟨hxk, xb, xo, xc, hxs, hxc1, hpx⟩ := list_item (IN_u.out _ B25_W20.out) HUE.out
      have hub : ua5 = some ⟨xb, xo, none⟩ ∧ u.xs.length = 1 ∧ ub5 = xc := by
        have h := AG_u.out
        unfold Ty.agg at h
        rw [hxs] at h
        injection h with h
        simp at h
        exact ⟨h.2.1.symm, h.2.2.1.symm, h.2.2.2.symm⟩
      obtain ⟨y, hpy, hye⟩ := hpx
      obtain ⟨ya4, yb4, yf4⟩ := hpy.in.nslice
      obtain ⟨ya5, yb5, yf5⟩ := hpy.in.xslice
      have y0 := hpy.c0; have y1 := hpy.c1; have y2 := hpy.c2
      rw [yf4] at y1
      rw [yf5] at y2
      have hsm := fun (W' : World) (h : Below W24.heap.size W24 W') => tsame_any y.sz y t W' (Nat.le_refl _) (hpy.in.below h) (IN_t.out _ (B25_W13.out.trans (h.mono B25_W13.out.size)))
      have hyag : y.agg = .agg #[.int .i64 y.k, .slice ya4 y.ns.length yb4, .slice ya5 y.xs.length yb5] := by unfold Ty.agg; rw [yf4, yf5]
      rw [hyag, AG_t.out, Ty.sameB_of hye] at hsm
      have hpl := hpy.2.1
      have HSM := Lib.hid (hsm W24.drew (Below.refl _ _).drew)
      obtain ⟨u0_, u1_, u2_⟩ := HC_u.out _ B25_W20.out
      obtain ⟨t0_, t1_, t2_⟩ := HC_t.out _ B25_W13.out
      rw [hub.1, hub.2.1, hub.2.2] at u2_
      rw [hxk] at u0_
      clear hub hxs hpy hye hsm hyag yf4 yf5 hxk
      have HLT : Hid (Qu < W24.heap.size ∧ xb < W24.heap.size ∧ Qt < W24.heap.size) := Lib.hid ⟨cell_lt u0_, hpl, cell_lt t0_⟩
      go_wp2_with fail
      have HS0 : Hid (W24.drew.cell? ⟨Qu, 0, none⟩ = some (.int .i64 5) ∧ W24.drew.cell? ⟨Qu, 2, none⟩ = some (.slice (some ⟨xb, xo, none⟩) 1 xc) ∧ W24.drew.cell? ⟨xb, xo, none⟩ = some (.int .i64 y.k) ∧ W24.drew.cell? ⟨xb, xo + 1, none⟩ = some (.slice ya4 y.ns.length yb4) ∧ W24.drew.cell? ⟨xb, xo + 2, none⟩ = some (.slice ya5 y.xs.length yb5) ∧ W24.drew.cell? ⟨Qt, 0, none⟩ = some (.int .i64 t.k) ∧ W24.drew.cell? ⟨Qt, 1, none⟩ = some (.slice ta4 t.ns.length tb4) ∧ W24.drew.cell? ⟨Qt, 2, none⟩ = some (.slice ta5 t.xs.length tb5)) := Lib.hid ⟨u0_, u2_, y0, y1, y2, t0_, t1_, t2_⟩
      go_region_held3 (fun X => X.cell? ⟨Qu, 0, none⟩ = some (.int .i64 5) ∧ X.cell? ⟨Qu, 2, none⟩ = some (.slice (some ⟨xb, xo, none⟩) 1 xc) ∧ X.cell? ⟨xb, xo, none⟩ = some (.int .i64 y.k) ∧ X.cell? ⟨xb, xo + 1, none⟩ = some (.slice ya4 y.ns.length yb4) ∧ X.cell? ⟨xb, xo + 2, none⟩ = some (.slice ya5 y.xs.length yb5) ∧ X.cell? ⟨Qt, 0, none⟩ = some (.int .i64 t.k) ∧ X.cell? ⟨Qt, 1, none⟩ = some (.slice ta4 t.ns.length tb4) ∧ X.cell? ⟨Qt, 2, none⟩ = some (.slice ta5 t.xs.length tb5)) (first | with_reducible exact HS0.out | with_reducible exact HS1.out | fail)
        (first
        | (go_at_call 15; refine HSM.out.mono ?_; rintro e we ⟨rfl, hbe⟩;
           have HBE := Lib.hid (show Below W24.heap.size W24 we from (Below.refl _ _).drew.trans hbe);
           have HS1 : Hid (we.cell? ⟨Qu, 0, none⟩ = some (.int .i64 5) ∧ we.cell? ⟨Qu, 2, none⟩ = some (.slice (some ⟨xb, xo, none⟩) 1 xc) ∧ we.cell? ⟨xb, xo, none⟩ = some (.int .i64 y.k) ∧ we.cell? ⟨xb, xo + 1, none⟩ = some (.slice ya4 y.ns.length yb4) ∧ we.cell? ⟨xb, xo + 2, none⟩ = some (.slice ya5 y.xs.length yb5) ∧ we.cell? ⟨Qt, 0, none⟩ = some (.int .i64 t.k) ∧ we.cell? ⟨Qt, 1, none⟩ = some (.slice ta4 t.ns.length tb4) ∧ we.cell? ⟨Qt, 2, none⟩ = some (.slice ta5 t.xs.length tb5)) := Lib.hid ⟨(HBE.out.cell (p := ⟨Qu, 0, none⟩) HLT.out.1).trans u0_, (HBE.out.cell (p := ⟨Qu, 2, none⟩) HLT.out.1).trans u2_, (HBE.out.cell (p := ⟨xb, xo, none⟩) HLT.out.2.1).trans y0, (HBE.out.cell (p := ⟨xb, xo + 1, none⟩) HLT.out.2.1).trans y1, (HBE.out.cell (p := ⟨xb, xo + 2, none⟩) HLT.out.2.1).trans y2, (HBE.out.cell (p := ⟨Qt, 0, none⟩) HLT.out.2.2).trans t0_, (HBE.out.cell (p := ⟨Qt, 1, none⟩) HLT.out.2.2).trans t1_, (HBE.out.cell (p := ⟨Qt, 2, none⟩) HLT.out.2.2).trans t2_⟩;
           clear hbe)
        | fail)
      clear u0_ u1_ u2_ t0_ t1_ t2_ y0 y1 y2 hpl
      have B35_W := Lib.hid (B25_W.out.trans (HBE.out.mono B25_W.out.size))
      have B35_W13 := Lib.hid (B25_W13.out.trans (HBE.out.mono B25_W13.out.size))
      have B35_WL := Lib.hid (B25_WL.out.trans (HBE.out.mono B25_WL.out.size))
      have B35_WF := Lib.hid (B25_WF.out.trans (HBE.out.mono B25_WF.out.size))
      have B35_W20 := Lib.hid (B25_W20.out.trans (HBE.out.mono B25_W20.out.size))
      have B35_W24 := Lib.hid (BR_W24.out.trans (HBE.out.mono BR_W24.out.size))
      have hcc := tsame_any v.sz v t we (Nat.le_refl _) (IN_v.out _ B35_W24.out) (IN_t.out _ B35_W13.out)
      rw [AG_v.out, AG_t.out] at hcc
      have CC := Lib.hid hcc
      clear hcc
      obtain ⟨v0_, v1_, v2_⟩ := HC_v.out _ B35_W24.out
      obtain ⟨t0_, t1_, t2_⟩ := HC_t.out _ B35_W13.out
      go_wp2_with fail
      refine CC.out.mono ?_
      rintro e w36 ⟨rfl, hb⟩
      clear v0_ v1_ v2_ t0_ t1_ t2_
      have B37_W := Lib.hid (B35_W.out.trans (hb.mono B35_W.out.size))
      have B37_W13 := Lib.hid (B35_W13.out.trans (hb.mono B35_W13.out.size))
      have B37_WL := Lib.hid (B35_WL.out.trans (hb.mono B35_WL.out.size))
      have B37_WF := Lib.hid (B35_WF.out.trans (hb.mono B35_WF.out.size))
      have B37_W20 := Lib.hid (B35_W20.out.trans (hb.mono B35_W20.out.size))
      have B37_W24 := Lib.hid (B35_W24.out.trans (hb.mono B35_W24.out.size))
      clear CC hb
      rw [Ty.sameB_of HVE.out]
      go_wp2_with fail
      go_ret
      exact ⟨rfl, HBW.out.trans (B37_W.out.mono HBW.out.size)⟩

set_option maxRecDepth 100000 in
theorem walk {H : Type} {enc : TypeId × Value → H} {W : World} {base : Nat} {args : Array Value} {ds : List (DataW H)} {ps : List MemPlace}
    (h : Handed enc Tryz.prog W base Tryz.f4.params.toList args ds ps) : Calls Tryz.prog 4 args W fun e w' => TrueBelow W e w' := by
  rw [Tryz.params4] at h
  have hval := h.val
  obtain ⟨v0, vs0, d0, ds0, p0, q0, hargs, rfl, rfl, h0, r0⟩ := trodAll_cons h.trod
  obtain ⟨v1, vs1, d1, ds1, p1, q1, rfl, rfl, rfl, h1, r1⟩ := trodAll_cons r0
  obtain ⟨rfl, rfl, rfl⟩ := trodAll_nil r1
  obtain rfl : args = #[v0, v1] := by cases args; simp_all
  have hv0 := hval 0 29 v0 rfl rfl
  unfold Value.okWide at hv0
  rw [Tryz.underlying29] at hv0
  obtain ⟨cs0, he0, _⟩ := hv0
  obtain ⟨x, rfl, hx⟩ := arg_exp he0 h0 0 h.fits rfl rfl
  obtain ⟨vs, pvs, cvs, rfl, hvs⟩ := arg_vars (hval 1 30 v1 rfl rfl) h1 1 h.fits rfl rfl
  exact law_any x vs pvs cvs W hx hvs


set_option maxRecDepth 100000 in
theorem lifted (os : Os) (started : os.Started) (H : Type) (enc : TypeId × Value → H) :
    ReturnsInHanded {} Tryz.checked os 4 .any (Rows.typesPartsSpec.pre6 enc Tryz.prog Tryz.f4 Rows.typesPartsRow.domain false) (Rows.typesPartsSpec.post enc Tryz.prog Tryz.f4 false true false false) := by
  refine returnsInHanded_of_change_sized (C := Tryz.checked) own started (by kernel_rfl) Tryz.func4
    (ChangeSpec.witness6 (enc := enc) (C := Tryz.checked) false ⟨#[], #[.agg #[.int .i64 0, .string ByteArray.empty, .int .i64 0, .int .i64 0, .float .f64 0, .string ByteArray.empty, .slice none 0 0, .slice none 0 0, .slice none 0 0, .slice none 0 0], .slice none 0 0], []⟩ 8 (by kernel_rfl) (by kernel_rfl) (by kernel_rfl) (by kernel_rfl)) ?_
  intro W base args ds gs before hval hW _ hsz _
  refine (walk (handed_of hval hW rfl rfl hsz)).mono fun e W' ⟨he, hb⟩ => ?_
  subst he
  exact ⟨_, rfl, law_post hW rfl laidOut (by kernel_rfl) rfl Tryz.underlying4 (fun ds' h => by match ds', h with | [_, _], _ => rfl) hb⟩

theorem over : Rows.typesPartsRow.holds Tryz.pinned (OpenSpec.ofChange Rows.typesPartsSpec) :=
  OpenClaim.holds_of_wide 4 Tryz.f4 rfl rfl rfl rfl rfl rfl rfl ⟨rfl, rfl, rfl, rfl, rfl⟩ rfl rfl rfl rfl rfl (by kernel_rfl) Tryz.func4 (by kernel_rfl)
    (of_decide_eq_true (by kernel_rfl)) (by unfold Func.isWrapper; first | (rw [if_pos (by decide +kernel)]; kernel_rfl) | (rw [if_neg (by decide +kernel)]; exact ⟨rfl, rfl⟩))
    (fun os started H enc _ => lifted os started H enc)

theorem proved : Rows.TypesPartsSaid :=
  over
#print axioms proved
end Go.Proofs.YtjpdbhhjlnmacaaGreat.typesParts
