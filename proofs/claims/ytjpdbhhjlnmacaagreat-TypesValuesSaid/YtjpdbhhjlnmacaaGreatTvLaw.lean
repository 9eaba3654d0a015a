/- A value that is of a type is of each type that this one stands for. No conditions. -/
import Derived.Test.YtjpdbhhjlnmacaaGreatTvM53
import Derived.Test.YtjpdbhhjlnmacaaGreatTvM52
namespace Go.Proofs.YtjpdbhhjlnmacaaGreat.typesValues
set_option linter.unusedVariables false
open Go.RowKit Go.ChangeShapes Go.WideShapes

set_option maxHeartbeats 16000000 in
set_option maxRecDepth 100000 in
theorem law_any (v : Val) (a b : Ty) (w : World) (hv : v.In w) (ha : a.In w) (hb : b.In w) : Calls Tryz.prog 7 #[v.agg, a.agg, b.agg] w fun e w' => TrueBelow w e w' := by
  obtain ⟨W, hW⟩ : ∃ W, W = ((w.alloc (.cells #[.int .i64 v.k, .int .i64 v.n, .float .f64 v.f, .string v.s, v.na.val v.ns.length, v.xa.val v.xs.length] 26)).alloc (.cells #[.int .i64 a.k, a.na.val a.ns.length, a.xa.val a.xs.length] 36)).alloc (.cells #[.int .i64 b.k, b.na.val b.ns.length, b.xa.val b.xs.length] 36) := ⟨_, rfl⟩
  have hBW : Below w.heap.size w W := by rw [hW]; exact ((((Below.refl _ w).alloc (by simp; try omega) _).alloc (by simp; try omega) _).alloc (by simp; try omega) _)
  have bk_v : Blk W (w.heap.size) 26 #[.int .i64 v.k, .int .i64 v.n, .float .f64 v.f, .string v.s, v.na.val v.ns.length, v.xa.val v.xs.length] := by
    have h0 := Blk.new w 26 #[.int .i64 v.k, .int .i64 v.n, .float .f64 v.f, .string v.s, v.na.val v.ns.length, v.xa.val v.xs.length]
    rw [hW]
    exact ((h0).alloc _).alloc _
  have bk_a : Blk W (w.heap.size + 1) 36 #[.int .i64 a.k, a.na.val a.ns.length, a.xa.val a.xs.length] := by
    have h0 := Blk.new (w.alloc (.cells #[.int .i64 v.k, .int .i64 v.n, .float .f64 v.f, .string v.s, v.na.val v.ns.length, v.xa.val v.xs.length] 26)) 36 #[.int .i64 a.k, a.na.val a.ns.length, a.xa.val a.xs.length]
    rw [show (w.alloc (.cells #[.int .i64 v.k, .int .i64 v.n, .float .f64 v.f, .string v.s, v.na.val v.ns.length, v.xa.val v.xs.length] 26)).heap.size = w.heap.size + 1 from by simp] at h0
    rw [hW]
    exact (h0).alloc _
  have bk_b : Blk W (w.heap.size + 1 + 1) 36 #[.int .i64 b.k, b.na.val b.ns.length, b.xa.val b.xs.length] := by
    have h0 := Blk.new ((w.alloc (.cells #[.int .i64 v.k, .int .i64 v.n, .float .f64 v.f, .string v.s, v.na.val v.ns.length, v.xa.val v.xs.length] 26)).alloc (.cells #[.int .i64 a.k, a.na.val a.ns.length, a.xa.val a.xs.length] 36)) 36 #[.int .i64 b.k, b.na.val b.ns.length, b.xa.val b.xs.length]
    rw [show ((w.alloc (.cells #[.int .i64 v.k, .int .i64 v.n, .float .f64 v.f, .string v.s, v.na.val v.ns.length, v.xa.val v.xs.length] 26)).alloc (.cells #[.int .i64 a.k, a.na.val a.ns.length, a.xa.val a.xs.length] 36)).heap.size = w.heap.size + 1 + 1 from by simp] at h0
    rw [hW]
    exact h0
  obtain ⟨va4, vb4, vf4⟩ := hv.nslice
  obtain ⟨va5, vb5, vf5⟩ := hv.xslice
  obtain ⟨aa4, ab4, af4⟩ := ha.nslice
  obtain ⟨aa5, ab5, af5⟩ := ha.xslice
  obtain ⟨ba4, bb4, bf4⟩ := hb.nslice
  obtain ⟨ba5, bb5, bf5⟩ := hb.xslice
  obtain ⟨A, hA⟩ : ∃ A, A = w.heap.size := ⟨_, rfl⟩
  rw [← hA] at bk_v bk_a bk_b
  rw [vf4, vf5] at bk_v hW
  rw [af4, af5] at bk_a hW
  rw [bf4, bf5] at bk_b hW
  have HC_v := Lib.hid (cells6 bk_v)
  have IN_v := Lib.hid (fun (W' : World) (h : Below W.heap.size W W') => (hv.below hBW).below h)
  have AG_v : Hid (v.agg = .agg #[.int .i64 v.k, .int .i64 v.n, .float .f64 v.f, .string v.s, .slice va4 v.ns.length vb4, .slice va5 v.xs.length vb5]) := Lib.hid (by unfold Val.agg; rw [vf4, vf5])
  have HC_a := Lib.hid (cells3 bk_a)
  have IN_a := Lib.hid (fun (W' : World) (h : Below W.heap.size W W') => (ha.below hBW).below h)
  have AG_a : Hid (a.agg = .agg #[.int .i64 a.k, .slice aa4 a.ns.length ab4, .slice aa5 a.xs.length ab5]) := Lib.hid (by unfold Ty.agg; rw [af4, af5])
  have HC_b := Lib.hid (cells3 bk_b)
  have IN_b := Lib.hid (fun (W' : World) (h : Below W.heap.size W W') => (hb.below hBW).below h)
  have AG_b : Hid (b.agg = .agg #[.int .i64 b.k, .slice ba4 b.ns.length bb4, .slice ba5 b.xs.length bb5]) := Lib.hid (by unfold Ty.agg; rw [bf4, bf5])
  rw [AG_v.out, AG_a.out, AG_b.out]
  have BR_W := Lib.hid (Below.refl W.heap.size W)
  have HW := Lib.hid hW; have HA := Lib.hid hA; have HBW := Lib.hid hBW
  clear hW hA hBW bk_v vf4 vf5 hv bk_a af4 af5 ha bk_b bf4 bf5 hb
  have HAW := Lib.hid awake09_any
  go_enter Tryz.func7, Tryz.ntmps7
  go_upto_region 1 with fail
  rw [← HW.out, ← HA.out]
  have hcc := HAW.out W
  have CC := Lib.hid hcc
  clear hcc
  go_wp2_with fail
  refine CC.out.mono ?_
  rintro e w1 ⟨rfl, hb⟩
  have B2_W := Lib.hid (BR_W.out.trans (hb.mono BR_W.out.size))
  clear CC hb
  have hcc := small_any v w1 (IN_v.out _ B2_W.out)
  rw [AG_v.out] at hcc
  have CC := Lib.hid hcc
  clear hcc
  obtain ⟨v0_, v1_, v2_, v3_, v4_, v5_⟩ := HC_v.out _ B2_W.out
  go_wp2_with fail
  refine CC.out.mono ?_
  rintro e w3 ⟨rfl, hb⟩
  clear v0_ v1_ v2_ v3_ v4_ v5_
  have B4_W := Lib.hid (B2_W.out.trans (hb.mono B2_W.out.size))
  clear CC hb
  cases hr : v.smallB with
  | false =>
    clear hr
    have hcc := HAW.out w3
    have CC := Lib.hid hcc
    clear hcc
    go_wp2_with fail
    refine CC.out.mono ?_
    rintro e w5 ⟨rfl, hb⟩
    have B6_W := Lib.hid (B4_W.out.trans (hb.mono B4_W.out.size))
    clear CC hb
    go_wp2_with fail
    go_ret
    exact ⟨rfl, HBW.out.trans (B6_W.out.mono HBW.out.size)⟩
  | true =>
  clear hr
  have hcc := tsmall_any a w3 (IN_a.out _ B4_W.out)
  rw [AG_a.out] at hcc
  have CC := Lib.hid hcc
  clear hcc
  obtain ⟨a0_, a1_, a2_⟩ := HC_a.out _ B4_W.out
  go_wp2_with fail
  refine CC.out.mono ?_
  rintro e w7 ⟨rfl, hb⟩
  clear a0_ a1_ a2_
  have B8_W := Lib.hid (B4_W.out.trans (hb.mono B4_W.out.size))
  clear CC hb
  cases hr : a.smallB with
  | false =>
    clear hr
    have hcc := HAW.out w7
    have CC := Lib.hid hcc
    clear hcc
    go_wp2_with fail
    refine CC.out.mono ?_
    rintro e w9 ⟨rfl, hb⟩
    have B10_W := Lib.hid (B8_W.out.trans (hb.mono B8_W.out.size))
    clear CC hb
    go_wp2_with fail
    go_ret
    exact ⟨rfl, HBW.out.trans (B10_W.out.mono HBW.out.size)⟩
  | true =>
  clear hr
  have hcc := tsmall_any b w7 (IN_b.out _ B8_W.out)
  rw [AG_b.out] at hcc
  have CC := Lib.hid hcc
  clear hcc
  obtain ⟨b0_, b1_, b2_⟩ := HC_b.out _ B8_W.out
  go_wp2_with fail
  refine CC.out.mono ?_
  rintro e w11 ⟨rfl, hb⟩
  clear b0_ b1_ b2_
  have B12_W := Lib.hid (B8_W.out.trans (hb.mono B8_W.out.size))
  clear CC hb
  cases hr : b.smallB with
  | false =>
    clear hr
    have hcc := HAW.out w11
    have CC := Lib.hid hcc
    clear hcc
    go_wp2_with fail
    refine CC.out.mono ?_
    rintro e w13 ⟨rfl, hb⟩
    have B14_W := Lib.hid (B12_W.out.trans (hb.mono B12_W.out.size))
    clear CC hb
    go_wp2_with fail
    go_ret
    exact ⟨rfl, HBW.out.trans (B14_W.out.mono HBW.out.size)⟩
  | true =>
  clear hr
  have hcc := fitsf_any v a w11 (IN_v.out _ B12_W.out) (IN_a.out _ B12_W.out)
  rw [AG_v.out, AG_a.out] at hcc
  have CC := Lib.hid hcc
  clear hcc
  obtain ⟨v0_, v1_, v2_, v3_, v4_, v5_⟩ := HC_v.out _ B12_W.out
  obtain ⟨a0_, a1_, a2_⟩ := HC_a.out _ B12_W.out
  go_wp2_with fail
  refine CC.out.mono ?_
  rintro e w15 ⟨rfl, hb⟩
  clear v0_ v1_ v2_ v3_ v4_ v5_ a0_ a1_ a2_
  have B16_W := Lib.hid (B12_W.out.trans (hb.mono B12_W.out.size))
  clear CC hb
  cases hr : v.FitsB a with
  | false =>
    clear hr
    have hcc := HAW.out w15
    have CC := Lib.hid hcc
    clear hcc
    go_wp2_with fail
    refine CC.out.mono ?_
    rintro e w17 ⟨rfl, hb⟩
    have B18_W := Lib.hid (B16_W.out.trans (hb.mono B16_W.out.size))
    clear CC hb
    go_wp2_with fail
    go_ret
    exact ⟨rfl, HBW.out.trans (B18_W.out.mono HBW.out.size)⟩
  | true =>
  have HF := Lib.hid hr
  clear hr
  have hcc := is_any a b w15 (IN_a.out _ B16_W.out) (IN_b.out _ B16_W.out)
  rw [AG_a.out, AG_b.out] at hcc
  have CC := Lib.hid hcc
  clear hcc
  obtain ⟨a0_, a1_, a2_⟩ := HC_a.out _ B16_W.out
  obtain ⟨b0_, b1_, b2_⟩ := HC_b.out _ B16_W.out
  go_wp2_with fail
  refine CC.out.mono ?_
  rintro e w19 ⟨rfl, hb⟩
  clear a0_ a1_ a2_ b0_ b1_ b2_
  have B20_W := Lib.hid (B16_W.out.trans (hb.mono B16_W.out.size))
  clear CC hb
  cases hr : a.isB b with
  | false =>
    clear hr
    have hcc := HAW.out w19
    have CC := Lib.hid hcc
    clear hcc
    go_wp2_with fail
    refine CC.out.mono ?_
    rintro e w21 ⟨rfl, hb⟩
    have B22_W := Lib.hid (B20_W.out.trans (hb.mono B20_W.out.size))
    clear CC hb
    go_wp2_with fail
    go_ret
    exact ⟨rfl, HBW.out.trans (B22_W.out.mono HBW.out.size)⟩
  | true =>
  have HI := Lib.hid hr
  clear hr
  have hcc := fitsf_any v b w19 (IN_v.out _ B20_W.out) (IN_b.out _ B20_W.out)
  rw [AG_v.out, AG_b.out] at hcc
  have CC := Lib.hid hcc
  clear hcc
  obtain ⟨v0_, v1_, v2_, v3_, v4_, v5_⟩ := HC_v.out _ B20_W.out
  obtain ⟨b0_, b1_, b2_⟩ := HC_b.out _ B20_W.out
  go_wp2_with fail
  refine CC.out.mono ?_
  rintro e w23 ⟨rfl, hb⟩
  clear v0_ v1_ v2_ v3_ v4_ v5_ b0_ b1_ b2_
  have B24_W := Lib.hid (B20_W.out.trans (hb.mono B20_W.out.size))
  clear CC hb
  rw [FitsB_is HF.out HI.out]
  go_wp2_with fail
  go_ret
  exact ⟨rfl, HBW.out.trans (B24_W.out.mono HBW.out.size)⟩

set_option maxRecDepth 100000 in
theorem walk {H : Type} {enc : TypeId × Value → H} {W : World} {base : Nat} {args : Array Value} {ds : List (DataW H)} {ps : List MemPlace}
    (h : Handed enc Tryz.prog W base Tryz.f7.params.toList args ds ps) : Calls Tryz.prog 7 args W fun e w' => TrueBelow W e w' := by
  rw [Tryz.params7] at h
  have hval := h.val
  obtain ⟨v0, vs0, d0, ds0, p0, q0, hargs, rfl, rfl, h0, r0⟩ := trodAll_cons h.trod
  obtain ⟨v1, vs1, d1, ds1, p1, q1, rfl, rfl, rfl, h1, r1⟩ := trodAll_cons r0
  obtain ⟨v2, vs2, d2, ds2, p2, q2, rfl, rfl, rfl, h2, r2⟩ := trodAll_cons r1
  obtain ⟨rfl, rfl, rfl⟩ := trodAll_nil r2
  obtain rfl : args = #[v0, v1, v2] := by cases args; simp_all
  have hv0 := hval 0 26 v0 rfl rfl
  unfold Value.okWide at hv0
  rw [Tryz.underlying26] at hv0
  obtain ⟨cs0, he0, _⟩ := hv0
  have hv1 := hval 1 36 v1 rfl rfl
  unfold Value.okWide at hv1
  rw [Tryz.underlying36] at hv1
  obtain ⟨cs1, he1, _⟩ := hv1
  have hv2 := hval 2 36 v2 rfl rfl
  unfold Value.okWide at hv2
  rw [Tryz.underlying36] at hv2
  obtain ⟨cs2, he2, _⟩ := hv2
  obtain ⟨v, rfl, hv⟩ := arg_val he0 h0 0 h.fits rfl rfl
  obtain ⟨a, rfl, ha⟩ := arg_ty he1 h1 1 h.fits rfl rfl
  obtain ⟨b, rfl, hb⟩ := arg_ty he2 h2 2 h.fits rfl rfl
  exact law_any v a b W hv ha hb


set_option maxRecDepth 100000 in
theorem lifted (os : Os) (started : os.Started) (H : Type) (enc : TypeId × Value → H) :
    ReturnsInHanded {} Tryz.checked os 7 .any (Rows.typesValuesSpec.pre6 enc Tryz.prog Tryz.f7 Rows.typesValuesRow.domain false) (Rows.typesValuesSpec.post enc Tryz.prog Tryz.f7 false true false false) := by
  refine returnsInHanded_of_change_sized (C := Tryz.checked) own started (by kernel_rfl) Tryz.func7
    (ChangeSpec.witness6 (enc := enc) (C := Tryz.checked) false ⟨#[], #[.agg #[.int .i64 0, .int .i64 0, .float .f64 0, .string ByteArray.empty, .slice none 0 0, .slice none 0 0], .agg #[.int .i64 0, .slice none 0 0, .slice none 0 0], .agg #[.int .i64 0, .slice none 0 0, .slice none 0 0]], []⟩ 8 (by kernel_rfl) (by kernel_rfl) (by kernel_rfl) (by kernel_rfl)) ?_
  intro W base args ds gs before hval hW _ hsz _
  refine (walk (handed_of hval hW rfl rfl hsz)).mono fun e W' ⟨he, hb⟩ => ?_
  subst he
  exact ⟨_, rfl, law_post hW rfl laidOut (by kernel_rfl) rfl Tryz.underlying4 (fun ds' h => by match ds', h with | [_, _, _], _ => rfl) hb⟩

theorem over : Rows.typesValuesRow.holds Tryz.pinned (OpenSpec.ofChange Rows.typesValuesSpec) :=
  OpenClaim.holds_of_wide 7 Tryz.f7 rfl rfl rfl rfl rfl rfl rfl ⟨rfl, rfl, rfl, rfl, rfl⟩ rfl rfl rfl rfl rfl (by kernel_rfl) Tryz.func7 (by kernel_rfl)
    (of_decide_eq_true (by kernel_rfl)) (by unfold Func.isWrapper; first | (rw [if_pos (by decide +kernel)]; kernel_rfl) | (rw [if_neg (by decide +kernel)]; exact ⟨rfl, rfl⟩))
    (fun os started H enc _ => lifted os started H enc)

theorem proved : Rows.TypesValuesSaid :=
  over
#print axioms proved
end Go.Proofs.YtjpdbhhjlnmacaaGreat.typesValues
