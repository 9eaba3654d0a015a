/- Any bytes, from any place on, are the value, or the type, that the document says, or none. No conditions. -/
import Derived.Test.YtemhinagajfemaaCrdM11
import Derived.Test.YtemhinagajfemaaCrdM52
import Derived.Test.YtemhinagajfemaaCrdM49
import Derived.Test.YtemhinagajfemaaCrdM39
import Derived.Test.YtemhinagajfemaaCrdM53
import Derived.Test.YtemhinagajfemaaCrdM6
namespace Go.Proofs.Ytemhinagajfemaa.codecReads
set_option linter.unusedVariables false
open Go.RowKit Go.ChangeShapes Go.WideShapes
open Go.ChangeMaps (open_string shut_string)

theorem zero_in (w : World) : Val.zero.In w := by
  rw [Val.in_iff]
  exact ⟨⟨by unfold i64r; decide, by unfold i64r; decide, by decide, by unfold strok; decide, by decide, by decide, fun s h => by simp [Val.ns] at h⟩, rfl, rfl, fun x hx => by simp [Val.xs] at hx⟩
theorem tzero_in (w : World) : Ty.zero.In w := by
  rw [Ty.in_iff]
  exact ⟨⟨by unfold i64r; decide, by decide, by decide, fun s h => by simp [Ty.ns] at h⟩, rfl, rfl, fun x hx => by simp [Ty.xs] at hx⟩
def VAns (v : Val) (q : Nat) (k : Int) (w : World) (e : Ending) (w' : World) : Prop := ∃ u : Val, e = .returned (.tuple #[u.agg, .int .i64 q, .int .i64 k]) ∧ u.In w' ∧ u.erase = v ∧ Below w.heap.size w w'
def TAns (v : Ty) (q : Nat) (k : Int) (w : World) (e : Ending) (w' : World) : Prop := ∃ u : Ty, e = .returned (.tuple #[u.agg, .int .i64 q, .int .i64 k]) ∧ u.In w' ∧ u.erase = v ∧ Below w.heap.size w w'
theorem v_ans {r : Except Int (Val × Nat)} : ∃ v q k, ∀ w e w', ReadVTold r w e w' → VAns v q k w e w' := by
  cases r with
  | error k => exact ⟨Val.zero.erase, 0, k, fun w e w' ⟨h1, h2⟩ => ⟨Val.zero, h2, zero_in w', rfl, h1⟩⟩
  | ok x => exact ⟨x.1, x.2, 0, fun w e w' ⟨h1, u, h2, h3, h4⟩ => ⟨u, h2, h4, h3, h1⟩⟩
theorem t_ans {r : Except Int (Ty × Nat)} : ∃ v q k, ∀ w e w', ReadTTold r w e w' → TAns v q k w e w' := by
  cases r with
  | error k => exact ⟨Ty.zero.erase, 0, k, fun w e w' ⟨h1, h2⟩ => ⟨Ty.zero, h2, tzero_in w', rfl, h1⟩⟩
  | ok x => exact ⟨x.1, x.2, 0, fun w e w' ⟨h1, u, h2, h3, h4⟩ => ⟨u, h2, h4, h3, h1⟩⟩
theorem same_true {u v : Val} (h : u.erase = v.erase) : u.rsame v = true := by
  unfold Val.rsame
  rw [Val.rord_erase u.sz u v (Nat.le_refl _) h]
  rfl

set_option maxHeartbeats 16000000 in
set_option maxRecDepth 100000 in
theorem law_any (s : ByteArray) (a : Int) (w : World) (hz : s.size ≤ 9223372036854775807) : Calls Try.prog 9 #[.string s, .int .i64 a] w fun e w' => TrueBelow w e w' := by
  have hsf := run_store_flt
  by_cases h3 : s.size ≤ 3000
  case neg =>
    have i0 : decide ((3000 : Int) < (s.size : Int)) = true := by simp; omega
    have i0' : decide (3000 < s.size) = true := by simp; omega
    go_enter Try.func9, Try.ntmps9
    go_wp2_with fail
    refine (awake05_any _).mono ?_
    rintro e w1 ⟨rfl, hl⟩
    have B1 := Lib.hid hl
    clear hl
    go_wp2_with fail
    refine (awake05_any _).mono ?_
    rintro e w2 ⟨rfl, hl⟩
    have B2 := Lib.hid (B1.out.trans (hl.mono B1.out.size))
    clear hl
    go_wp2
    go_ret
    exact ⟨rfl, B2.out⟩
  have i0 : decide ((3000 : Int) < (s.size : Int)) = false := by simp; omega
  have i0' : decide (3000 < s.size) = false := by simp; omega
  have hsz : s.size ≤ 100000 := by omega
  obtain ⟨v, q, k, hv⟩ := v_ans (r := readVAt s a)
  obtain ⟨t, l, g, ht⟩ := t_ans (r := readTAt s a)
  have HV := Lib.hid hv; have HT := Lib.hid ht
  clear hv ht
  go_enter Try.func9, Try.ntmps9
  try simp only [lapp_cons, lapp_nil]
  go_wp2_with fail
  refine (awake05_any _).mono ?_
  rintro e w1 ⟨rfl, hl⟩
  have B1 := Lib.hid hl
  clear hl
  go_wp2_with fail
  refine (readval_any s a w1 hsz).mono ?_
  intro e w2 he
  obtain ⟨u1, rfl, hu1, hue1, hl⟩ := HV.out w1 e w2 he
  obtain ⟨a4, b4, e4⟩ := hu1.nslice
  obtain ⟨a5, b5, e5⟩ := hu1.xslice
  obtain ⟨W2, hW2⟩ : ∃ W2, W2 = w2.alloc (.cells u1.cells.toArray 46) := ⟨_, rfl⟩
  have hbl2 : Below w.heap.size w W2 := by rw [hW2]; exact (B1.out.trans (hl.mono B1.out.size)).alloc (B1.out.trans (hl.mono B1.out.size)).size _
  have hk2 : Blk W2 w2.heap.size 46 u1.cells.toArray := by rw [hW2]; exact Blk.new w2 46 _
  have hin2 : u1.In W2 := hu1.below (by rw [hW2]; exact (Below.refl _ _).alloc (Nat.le_refl _) _)
  have hg1 : u1.agg = .agg #[.int .i64 u1.k, .int .i64 u1.n, .float .f64 u1.f, .string u1.s, .slice a4 u1.ns.length b4, .slice a5 u1.xs.length b5] := by unfold Val.agg; rw [e4, e5]
  unfold Val.cells at hW2 hk2
  rw [hg1]
  rw [e4, e5] at hW2 hk2
  obtain ⟨V1, hV1⟩ : ∃ V1, V1 = w2.heap.size := ⟨_, rfl⟩
  rw [← hV1] at hk2
  have B2 := Lib.hid hbl2; have K2 := Lib.hid hk2; have I2 := Lib.hid hin2; have G1 := Lib.hid hg1; have HW2 := Lib.hid hW2; have HV1 := Lib.hid hV1; have U1 := Lib.hid hue1
  clear he hl hu1 hbl2 hk2 hin2 hg1 hW2 hV1 e4 e5 hue1
  go_upto_region 4 with fail
  rw [← HW2.out, ← HV1.out]
  go_wp2_with fail
  refine (rreadval_any s a W2 hsz).mono ?_
  intro e w3 he
  obtain ⟨u2, rfl, hu2, hue2, hl⟩ := HV.out W2 e w3 he
  obtain ⟨c4, d4, e4⟩ := hu2.nslice
  obtain ⟨c5, d5, e5⟩ := hu2.xslice
  obtain ⟨W3, hW3⟩ : ∃ W3, W3 = w3.alloc (.cells u2.cells.toArray 46) := ⟨_, rfl⟩
  have hl3 : Below W2.heap.size W2 W3 := by rw [hW3]; exact hl.alloc hl.size _
  have hk3 : Blk W3 w3.heap.size 46 u2.cells.toArray := by rw [hW3]; exact Blk.new w3 46 _
  have hin3 : u2.In W3 := hu2.below (by rw [hW3]; exact (Below.refl _ _).alloc (Nat.le_refl _) _)
  have hg2 : u2.agg = .agg #[.int .i64 u2.k, .int .i64 u2.n, .float .f64 u2.f, .string u2.s, .slice c4 u2.ns.length d4, .slice c5 u2.xs.length d5] := by unfold Val.agg; rw [e4, e5]
  unfold Val.cells at hW3 hk3
  rw [hg2]
  rw [e4, e5] at hW3 hk3
  obtain ⟨V2, hV2⟩ : ∃ V2, V2 = w3.heap.size := ⟨_, rfl⟩
  rw [← hV2] at hk3
  have B3 := Lib.hid (B2.out.trans (hl3.mono B2.out.size)); have K3 := Lib.hid hk3; have I3 := Lib.hid hin3; have G2 := Lib.hid hg2; have HW3 := Lib.hid hW3; have HV2 := Lib.hid hV2; have U2 := Lib.hid hue2
  have K2' := Lib.hid (K2.out.below hl3 K2.out.lt); have I2' := Lib.hid (I2.out.below hl3)
  clear he hl hu2 hk3 hin3 hg2 hW3 hV2 e4 e5 hue2 hl3 K2 I2 B2 HW2 HV1
  go_upto_region 5 with fail
  rw [← HW3.out, ← HV2.out]
  go_wp2_with fail
  refine (readtyp_any s a W3 hsz).mono ?_
  intro e w4 he
  obtain ⟨t1, rfl, ht1, hte1, hl⟩ := HT.out W3 e w4 he
  obtain ⟨r4, s4, e4⟩ := ht1.nslice
  obtain ⟨r5, s5, e5⟩ := ht1.xslice
  obtain ⟨W4, hW4⟩ : ∃ W4, W4 = w4.alloc (.cells t1.cells.toArray 61) := ⟨_, rfl⟩
  have hl4 : Below W3.heap.size W3 W4 := by rw [hW4]; exact hl.alloc hl.size _
  have hk4 : Blk W4 w4.heap.size 61 t1.cells.toArray := by rw [hW4]; exact Blk.new w4 61 _
  have hin4 : t1.In W4 := ht1.below (by rw [hW4]; exact (Below.refl _ _).alloc (Nat.le_refl _) _)
  have hg3 : t1.agg = .agg #[.int .i64 t1.k, .slice r4 t1.ns.length s4, .slice r5 t1.xs.length s5] := by unfold Ty.agg; rw [e4, e5]
  unfold Ty.cells at hW4 hk4
  rw [hg3]
  rw [e4, e5] at hW4 hk4
  obtain ⟨V3, hV3⟩ : ∃ V3, V3 = w4.heap.size := ⟨_, rfl⟩
  rw [← hV3] at hk4
  have B4 := Lib.hid (B3.out.trans (hl4.mono B3.out.size)); have K4 := Lib.hid hk4; have I4 := Lib.hid hin4; have G3 := Lib.hid hg3; have HW4 := Lib.hid hW4; have HV3 := Lib.hid hV3; have U3 := Lib.hid hte1
  have L2 := Lib.hid (K2'.out.below hl4 K2'.out.lt); have J2 := Lib.hid (I2'.out.below hl4); have L3 := Lib.hid (K3.out.below hl4 K3.out.lt); have J3 := Lib.hid (I3.out.below hl4)
  clear he hl ht1 hk4 hin4 hg3 hW4 hV3 e4 e5 hte1 hl4 K2' I2' K3 I3 B3 HW3 HV2
  go_upto_region 6 with fail
  rw [← HW4.out, ← HV3.out]
  go_wp2_with fail
  refine (rreadtyp_any s a W4 hsz).mono ?_
  intro e w5 he
  obtain ⟨t2, rfl, ht2, hte2, hl⟩ := HT.out W4 e w5 he
  obtain ⟨x4, y4, e4⟩ := ht2.nslice
  obtain ⟨x5, y5, e5⟩ := ht2.xslice
  obtain ⟨W5, hW5⟩ : ∃ W5, W5 = w5.alloc (.cells t2.cells.toArray 61) := ⟨_, rfl⟩
  have hl5 : Below W4.heap.size W4 W5 := by rw [hW5]; exact hl.alloc hl.size _
  have hk5 : Blk W5 w5.heap.size 61 t2.cells.toArray := by rw [hW5]; exact Blk.new w5 61 _
  have hin5 : t2.In W5 := ht2.below (by rw [hW5]; exact (Below.refl _ _).alloc (Nat.le_refl _) _)
  have hg4 : t2.agg = .agg #[.int .i64 t2.k, .slice x4 t2.ns.length y4, .slice x5 t2.xs.length y5] := by unfold Ty.agg; rw [e4, e5]
  unfold Ty.cells at hW5 hk5
  rw [hg4]
  rw [e4, e5] at hW5 hk5
  obtain ⟨V4, hV4⟩ : ∃ V4, V4 = w5.heap.size := ⟨_, rfl⟩
  rw [← hV4] at hk5
  have B5 := Lib.hid (B4.out.trans (hl5.mono B4.out.size)); have K5 := Lib.hid hk5; have I5 := Lib.hid hin5; have G4 := Lib.hid hg4; have HW5 := Lib.hid hW5; have HV4 := Lib.hid hV4; have U4 := Lib.hid hte2
  have M2 := Lib.hid (L2.out.below hl5 L2.out.lt); have N2 := Lib.hid (J2.out.below hl5); have M3 := Lib.hid (L3.out.below hl5 L3.out.lt); have N3 := Lib.hid (J3.out.below hl5); have M4 := Lib.hid (K4.out.below hl5 K4.out.lt); have N4 := Lib.hid (I4.out.below hl5)
  clear he hl ht2 hk5 hin5 hg4 hW5 hV4 e4 e5 hte2 hl5 L2 J2 L3 J3 K4 I4 B4 HW4 HV3
  go_upto_region 7 with fail
  rw [← HW5.out, ← HV4.out]
  have p0 := M2.out.cell 0; have p1 := M2.out.cell 1; have p2 := M2.out.cell 2; have p3 := M2.out.cell 3; have p4 := M2.out.cell 4; have p5 := M2.out.cell 5
  have q0 := M3.out.cell 0; have q1 := M3.out.cell 1; have q2 := M3.out.cell 2; have q3 := M3.out.cell 3; have q4 := M3.out.cell 4; have q5 := M3.out.cell 5
  simp only [List.getElem?_toArray, List.getElem?_cons_zero, List.getElem?_cons_succ] at p0 p1 p2 p3 p4 p5 q0 q1 q2 q3 q4 q5
  have hsame := rsamev_any u1 u2 W5 N2.out N3.out
  rw [G1.out, G2.out, same_true (U1.out.trans U2.out.symm)] at hsame
  have HS := Lib.hid hsame
  clear hsame
  go_wp2_with fail
  refine HS.out.mono ?_
  rintro e w6 ⟨rfl, hl⟩
  have B6 := Lib.hid (B5.out.trans (hl.mono B5.out.size))
  have T3 := Lib.hid (M4.out.below hl M4.out.lt); have T4 := Lib.hid (K5.out.below hl K5.out.lt)
  have R3 := Lib.hid (N4.out.below hl); have R4 := Lib.hid (I5.out.below hl)
  clear hl p0 p1 p2 p3 p4 p5 q0 q1 q2 q3 q4 q5
  have p0 := T3.out.cell 0; have p1 := T3.out.cell 1; have p2 := T3.out.cell 2
  have q0 := T4.out.cell 0; have q1 := T4.out.cell 1; have q2 := T4.out.cell 2
  simp only [List.getElem?_toArray, List.getElem?_cons_zero, List.getElem?_cons_succ] at p0 p1 p2 q0 q1 q2
  have hst := samet_true t1 t2 w6 R3.out R4.out (U3.out.trans U4.out.symm)
  rw [G3.out, G4.out] at hst
  have HST := Lib.hid hst
  clear hst
  go_wp2_with fail
  refine HST.out.mono ?_
  rintro e w7 ⟨rfl, hl⟩
  have B7 := Lib.hid (B6.out.trans (hl.mono B6.out.size))
  clear hl
  go_wp2
  go_ret
  exact ⟨rfl, B7.out⟩

set_option maxRecDepth 100000 in
theorem walk {H : Type} {enc : TypeId × Value → H} {W : World} {base : Nat} {args : Array Value} {ds : List (DataW H)} {ps : List MemPlace}
    (h : Handed enc Try.prog W base Try.f9.params.toList args ds ps) : Calls Try.prog 9 args W fun e w' => TrueBelow W e w' := by
  rw [Try.params9] at h
  have hval := h.val
  obtain ⟨v0, vs0, d0, ds0, p0, q0, hargs, rfl, rfl, h0, r0⟩ := trodAll_cons h.trod
  obtain ⟨v1, vs1, d1, ds1, p1, q1, rfl, rfl, rfl, h1, r1⟩ := trodAll_cons r0
  obtain ⟨rfl, rfl, rfl⟩ := trodAll_nil r1
  obtain rfl : args = #[v0, v1] := by cases args; simp_all
  obtain ⟨s, rfl, rfl, rfl, ws⟩ := open_string Try.underlying9 (hval 0 9 v0 rfl rfl) h0
  obtain ⟨a, rfl, rfl, rfl, w1⟩ := open_int Try.underlying3 (hval 1 3 v1 rfl rfl) h1
  exact law_any s a W (by unfold maxLen at ws; omega)


set_option maxRecDepth 100000 in
theorem lifted (os : Os) (started : os.Started) (H : Type) (enc : TypeId × Value → H) :
    ReturnsInHanded {} Try.checked os 9 .any (Rows.codecReadsSpec.pre6 enc Try.prog Try.f9 Rows.codecReadsRow.domain false) (Rows.codecReadsSpec.post enc Try.prog Try.f9 false true false false) := by
  refine returnsInHanded_of_change_sized (C := Try.checked) own started (by kernel_rfl) Try.func9
    (ChangeSpec.witness6 (enc := enc) (C := Try.checked) false ⟨#[], #[.string ByteArray.empty, .int .i64 0], []⟩ 8 (by kernel_rfl) (by kernel_rfl) (by kernel_rfl) (by kernel_rfl)) ?_
  intro W base args ds gs before hval hW _ hsz _
  refine (walk (handed_of hval hW rfl rfl hsz)).mono fun e W' ⟨he, hb⟩ => ?_
  subst he
  exact ⟨_, rfl, law_post hW rfl laidOut (by kernel_rfl) rfl Try.underlying4 (fun ds' h => by match ds', h with | [_, _], _ => rfl) hb⟩

theorem over : Rows.codecReadsRow.holds Try.pinned (OpenSpec.ofChange Rows.codecReadsSpec) :=
  OpenClaim.holds_of_wide 9 Try.f9 rfl rfl rfl rfl rfl rfl rfl ⟨rfl, rfl, rfl, rfl, rfl⟩ rfl rfl rfl rfl rfl (by kernel_rfl) Try.func9 (by kernel_rfl)
    (of_decide_eq_true (by kernel_rfl)) (by unfold Func.isWrapper; first | (rw [if_pos (by decide +kernel)]; kernel_rfl) | (rw [if_neg (by decide +kernel)]; exact ⟨rfl, rfl⟩))
    (fun os started H enc _ => lifted os started H enc)

theorem proved : Rows.CodecReadsSaid :=
  over
#print axioms proved
end Go.Proofs.Ytemhinagajfemaa.codecReads
