/- Messages of one key are taken in the order in which they came. No conditions. -/
import Derived.Test.YtemhinagajfemaaPostOrdM
import Derived.Test.YtemhinagajfemaaRefSmall
import Derived.Test.YtemhinagajfemaaRefRight
import Derived.Test.YtemhinagajfemaaRefSame
import Derived.Test.YtemhinagajfemaaValOpen
import Derived.Deep.DeepCutAuto
namespace Go.Proofs.Ytemhinagajfemaa.postOrder
set_option linter.unusedVariables false
open Go.RowKit Go.ChangeShapes Go.WideShapes Go.Deep

/-- What the first test leaves. -/
def Tested (W : World) (n : Nat) (key other : Val) (s : Value) (wx : World) : Prop :=
  Below W.heap.size W wx ∧ (s = .bool true ∨ (s = .bool false ∧ n ≤ 40 ∧ key.RightB = true ∧ other.RightB = true ∧ key.nf ≠ other.nf))
def OrdRel (W0 : World) (g n : Nat) (key other : Val) (sv rv iv : Value) (wr : World) : Prop :=
  ∃ (i r : Nat) (us : List Val) (ms : List (Val × Val)), iv = .int .i64 (i : Int) ∧ i ≤ n ∧ rv = .int .i64 (r : Int) ∧ Ordd key.nf other.nf ms us r ∧ BoxRow W0 g sv ms us wr
def OrdRel2 (W0 : World) (g r : Nat) (key other : Val) (sv : Value) (us : List Val) (jv : Value) (wr : World) : Prop :=
  ∃ (j : Nat) (ms : List (Val × Val)), jv = .int .i64 (j : Int) ∧ j ≤ us.length ∧ Ordd key.nf other.nf ms (us.drop j) r ∧ BoxRow W0 g sv ms us wr
/-- The cells of the two boxed arguments. -/
theorem int_ne0 {c : Int} (h : c ≠ 0) : (c == 0) = false := by simpa using h

set_option maxHeartbeats 20000000 in
set_option maxRecDepth 100000 in
theorem law_any (V key other : Val) (w : World) (hV : V.In w) (hk : key.In w) (ho : other.In w) : Calls Try.prog 5 #[V.xa.val V.xs.length, key.agg, other.agg] w fun e w' => TrueBelow w e w' := by
  obtain ⟨W, hW⟩ : ∃ W, W = (w.alloc (.cells key.cells.toArray 46)).alloc (.cells other.cells.toArray 46) := ⟨_, rfl⟩
  have hbW : Below w.heap.size w W := by rw [hW]; exact ((Below.refl _ _).alloc (Nat.le_refl _) _).alloc (by simp) _
  have hkb : Blk W w.heap.size 46 key.cells.toArray := by rw [hW]; exact (Blk.new w 46 _).alloc _
  have hob : Blk W (w.heap.size + 1) 46 other.cells.toArray := by
    rw [hW]
    have := Blk.new (w.alloc (.cells key.cells.toArray 46)) 46 other.cells.toArray
    rw [show (w.alloc (.cells key.cells.toArray 46)).heap.size = w.heap.size + 1 from by simp] at this
    exact this
  obtain ⟨vp, vc, ve, hx⟩ := items_at (hV.below hbW)
  obtain ⟨kp, kq, ke⟩ := hk.nslice
  obtain ⟨kp2, kq2, ke2⟩ := hk.xslice
  obtain ⟨op, oq, oe⟩ := ho.nslice
  obtain ⟨op2, oq2, oe2⟩ := ho.xslice
  have hs1 := fun (W' : World) (hb : Below W.heap.size W W') => small_any key W' ((hk.below hbW).below hb)
  have hs2 := fun (W' : World) (hb : Below W.heap.size W W') => small_any other W' ((ho.below hbW).below hb)
  have hr1 := fun (W' : World) (hb : Below W.heap.size W W') => rrightf_any key W' ((hk.below hbW).below hb)
  have hr2 := fun (W' : World) (hb : Below W.heap.size W W') => rrightf_any other W' ((ho.below hbW).below hb)
  have hq := fun (W' : World) (hb : Below W.heap.size W W') => rsamev_any key other W' ((hk.below hbW).below hb) ((ho.below hbW).below hb)
  have hxl := hV.ok.2.2.2.2.2.1
  unfold Val.cells at hW hkb hob
  unfold Val.agg at hs1 hs2 hr1 hr2 hq ⊢
  rw [ke, ke2, oe, oe2] at hW
  rw [ke, ke2] at hkb
  rw [oe, oe2] at hob
  simp only [ke, ke2] at hs1 hr1
  simp only [oe, oe2] at hs2 hr2
  simp only [ke, ke2, oe, oe2] at hq
  rw [ve, ke, ke2, oe, oe2]
  obtain ⟨n, hn⟩ : ∃ n, n = V.xs.length := ⟨_, rfl⟩
  rw [← hn] at hxl ⊢
  have HN := Lib.hid hn; have HX := Lib.hid hx; have HWW := Lib.hid hbW; have HKB := Lib.hid hkb; have HOB := Lib.hid hob
  have HS1 := Lib.hid hs1; have HS2 := Lib.hid hs2; have HR1 := Lib.hid hr1; have HR2 := Lib.hid hr2; have HQ := Lib.hid hq; have HW := Lib.hid hW
  have HKI := Lib.hid (hk.below hbW); have HOI := Lib.hid (ho.below hbW)
  have HKE := Lib.hid (And.intro ke ke2); have HOE := Lib.hid (And.intro oe oe2)
  clear hn hx hbW hs1 hs2 hr1 hr2 hq hW hk ho hV ke ke2 oe oe2 ve
  go_enter Try.func5, Try.ntmps5
  try simp only [lapp_cons, lapp_nil]
  go_upto_region 1 with fail
  rw [← HW.out]
  have k0 := hkb.cell 0; have k1 := hkb.cell 1; have k2 := hkb.cell 2; have k3 := hkb.cell 3; have k4 := hkb.cell 4; have k5 := hkb.cell 5; have d0 := hob.cell 0; have d1 := hob.cell 1; have d2 := hob.cell 2; have d3 := hob.cell 3; have d4 := hob.cell 4; have d5 := hob.cell 5
  simp only [List.getElem?_toArray, List.getElem?_cons_zero, List.getElem?_cons_succ] at k0 k1 k2 k3 k4 k5 d0 d1 d2 d3 d4 d5
  clear hkb hob HW
  go_cut [49] (fun s wx => Tested W n key other s wx)
  case first =>
    go_wp2_with fail
    refine (awake20_any _).mono ?_
    rintro e w1 ⟨rfl, hl⟩
    have B1 := Lib.hid hl
    clear hl
    clear k0 k1 k2 k3 k4 k5 d0 d1 d2 d3 d4 d5
    have k0 := (HKB.out.below B1.out HKB.out.lt).cell 0; have k1 := (HKB.out.below B1.out HKB.out.lt).cell 1; have k2 := (HKB.out.below B1.out HKB.out.lt).cell 2; have k3 := (HKB.out.below B1.out HKB.out.lt).cell 3; have k4 := (HKB.out.below B1.out HKB.out.lt).cell 4; have k5 := (HKB.out.below B1.out HKB.out.lt).cell 5; have d0 := (HOB.out.below B1.out HOB.out.lt).cell 0; have d1 := (HOB.out.below B1.out HOB.out.lt).cell 1; have d2 := (HOB.out.below B1.out HOB.out.lt).cell 2; have d3 := (HOB.out.below B1.out HOB.out.lt).cell 3; have d4 := (HOB.out.below B1.out HOB.out.lt).cell 4; have d5 := (HOB.out.below B1.out HOB.out.lt).cell 5
    simp only [List.getElem?_toArray, List.getElem?_cons_zero, List.getElem?_cons_succ] at k0 k1 k2 k3 k4 k5 d0 d1 d2 d3 d4 d5
    by_cases hn : 40 < n
    case pos =>
      have t1 : decide ((40 : Int) < (n : Int)) = true := by simp; omega
      go_wp2_with fail
      go_meet
      exact ⟨B1.out, .inl rfl⟩
    have t1 : decide ((40 : Int) < (n : Int)) = false := by simp; omega
    go_wp2_with fail
    cases hs1 : key.smallB
    case false =>
      rw [hs1] at HS1
      refine (HS1.out _ B1.out).mono ?_
      rintro e w2 ⟨rfl, hl⟩
      have B2 := Lib.hid (B1.out.trans (hl.mono B1.out.size))
      clear hl
      go_wp2_with fail
      go_meet
      exact ⟨B2.out, .inl rfl⟩
    rw [hs1] at HS1
    refine (HS1.out _ B1.out).mono ?_
    rintro e w2 ⟨rfl, hl⟩
    have B2 := Lib.hid (B1.out.trans (hl.mono B1.out.size))
    clear hl
    clear k0 k1 k2 k3 k4 k5 d0 d1 d2 d3 d4 d5
    have k0 := (HKB.out.below B2.out HKB.out.lt).cell 0; have k1 := (HKB.out.below B2.out HKB.out.lt).cell 1; have k2 := (HKB.out.below B2.out HKB.out.lt).cell 2; have k3 := (HKB.out.below B2.out HKB.out.lt).cell 3; have k4 := (HKB.out.below B2.out HKB.out.lt).cell 4; have k5 := (HKB.out.below B2.out HKB.out.lt).cell 5; have d0 := (HOB.out.below B2.out HOB.out.lt).cell 0; have d1 := (HOB.out.below B2.out HOB.out.lt).cell 1; have d2 := (HOB.out.below B2.out HOB.out.lt).cell 2; have d3 := (HOB.out.below B2.out HOB.out.lt).cell 3; have d4 := (HOB.out.below B2.out HOB.out.lt).cell 4; have d5 := (HOB.out.below B2.out HOB.out.lt).cell 5
    simp only [List.getElem?_toArray, List.getElem?_cons_zero, List.getElem?_cons_succ] at k0 k1 k2 k3 k4 k5 d0 d1 d2 d3 d4 d5
    go_wp2_with fail
    cases hs2 : other.smallB
    case false =>
      rw [hs2] at HS2
      refine (HS2.out _ B2.out).mono ?_
      rintro e w3 ⟨rfl, hl⟩
      have B3 := Lib.hid (B2.out.trans (hl.mono B2.out.size))
      clear hl
      go_wp2_with fail
      go_meet
      exact ⟨B3.out, .inl rfl⟩
    rw [hs2] at HS2
    refine (HS2.out _ B2.out).mono ?_
    rintro e w3 ⟨rfl, hl⟩
    have B3 := Lib.hid (B2.out.trans (hl.mono B2.out.size))
    clear hl
    clear k0 k1 k2 k3 k4 k5 d0 d1 d2 d3 d4 d5
    have k0 := (HKB.out.below B3.out HKB.out.lt).cell 0; have k1 := (HKB.out.below B3.out HKB.out.lt).cell 1; have k2 := (HKB.out.below B3.out HKB.out.lt).cell 2; have k3 := (HKB.out.below B3.out HKB.out.lt).cell 3; have k4 := (HKB.out.below B3.out HKB.out.lt).cell 4; have k5 := (HKB.out.below B3.out HKB.out.lt).cell 5; have d0 := (HOB.out.below B3.out HOB.out.lt).cell 0; have d1 := (HOB.out.below B3.out HOB.out.lt).cell 1; have d2 := (HOB.out.below B3.out HOB.out.lt).cell 2; have d3 := (HOB.out.below B3.out HOB.out.lt).cell 3; have d4 := (HOB.out.below B3.out HOB.out.lt).cell 4; have d5 := (HOB.out.below B3.out HOB.out.lt).cell 5
    simp only [List.getElem?_toArray, List.getElem?_cons_zero, List.getElem?_cons_succ] at k0 k1 k2 k3 k4 k5 d0 d1 d2 d3 d4 d5
    go_wp2_with fail
    cases hr1 : key.RightB
    case false =>
      rw [hr1] at HR1
      refine (HR1.out _ B3.out).mono ?_
      rintro e w4 ⟨rfl, hl⟩
      have B4 := Lib.hid (B3.out.trans (hl.mono B3.out.size))
      clear hl
      go_wp2_with fail
      go_meet
      exact ⟨B4.out, .inl rfl⟩
    rw [hr1] at HR1
    have HK1 := Lib.hid hr1
    refine (HR1.out _ B3.out).mono ?_
    rintro e w4 ⟨rfl, hl⟩
    have B4 := Lib.hid (B3.out.trans (hl.mono B3.out.size))
    clear hl
    clear k0 k1 k2 k3 k4 k5 d0 d1 d2 d3 d4 d5
    have k0 := (HKB.out.below B4.out HKB.out.lt).cell 0; have k1 := (HKB.out.below B4.out HKB.out.lt).cell 1; have k2 := (HKB.out.below B4.out HKB.out.lt).cell 2; have k3 := (HKB.out.below B4.out HKB.out.lt).cell 3; have k4 := (HKB.out.below B4.out HKB.out.lt).cell 4; have k5 := (HKB.out.below B4.out HKB.out.lt).cell 5; have d0 := (HOB.out.below B4.out HOB.out.lt).cell 0; have d1 := (HOB.out.below B4.out HOB.out.lt).cell 1; have d2 := (HOB.out.below B4.out HOB.out.lt).cell 2; have d3 := (HOB.out.below B4.out HOB.out.lt).cell 3; have d4 := (HOB.out.below B4.out HOB.out.lt).cell 4; have d5 := (HOB.out.below B4.out HOB.out.lt).cell 5
    simp only [List.getElem?_toArray, List.getElem?_cons_zero, List.getElem?_cons_succ] at k0 k1 k2 k3 k4 k5 d0 d1 d2 d3 d4 d5
    go_wp2_with fail
    cases hr2 : other.RightB
    case false =>
      rw [hr2] at HR2
      refine (HR2.out _ B4.out).mono ?_
      rintro e w5 ⟨rfl, hl⟩
      have B5 := Lib.hid (B4.out.trans (hl.mono B4.out.size))
      clear hl
      go_wp2_with fail
      go_meet
      exact ⟨B5.out, .inl rfl⟩
    rw [hr2] at HR2
    have HK2 := Lib.hid hr2
    refine (HR2.out _ B4.out).mono ?_
    rintro e w5 ⟨rfl, hl⟩
    have B5 := Lib.hid (B4.out.trans (hl.mono B4.out.size))
    clear hl
    clear k0 k1 k2 k3 k4 k5 d0 d1 d2 d3 d4 d5
    have k0 := (HKB.out.below B5.out HKB.out.lt).cell 0; have k1 := (HKB.out.below B5.out HKB.out.lt).cell 1; have k2 := (HKB.out.below B5.out HKB.out.lt).cell 2; have k3 := (HKB.out.below B5.out HKB.out.lt).cell 3; have k4 := (HKB.out.below B5.out HKB.out.lt).cell 4; have k5 := (HKB.out.below B5.out HKB.out.lt).cell 5; have d0 := (HOB.out.below B5.out HOB.out.lt).cell 0; have d1 := (HOB.out.below B5.out HOB.out.lt).cell 1; have d2 := (HOB.out.below B5.out HOB.out.lt).cell 2; have d3 := (HOB.out.below B5.out HOB.out.lt).cell 3; have d4 := (HOB.out.below B5.out HOB.out.lt).cell 4; have d5 := (HOB.out.below B5.out HOB.out.lt).cell 5
    simp only [List.getElem?_toArray, List.getElem?_cons_zero, List.getElem?_cons_succ] at k0 k1 k2 k3 k4 k5 d0 d1 d2 d3 d4 d5
    go_wp2_with fail
    cases hq : key.rsame other
    case true =>
      rw [hq] at HQ
      refine (HQ.out _ B5.out).mono ?_
      rintro e w6 ⟨rfl, hl⟩
      have B6 := Lib.hid (B5.out.trans (hl.mono B5.out.size))
      clear hl
      go_wp2_with fail
      go_meet
      exact ⟨B6.out, .inl rfl⟩
    rw [hq] at HQ
    have HNE : Hid (key.nf ≠ other.nf) := Lib.hid (fun e => by
      have h := (Val.rord_nf key.sz key other (Nat.le_refl _) (Val.RightB.kinds HK1.out)).2 e
      unfold Val.rsame at hq
      rw [h] at hq
      simp at hq)
    refine (HQ.out _ B5.out).mono ?_
    rintro e w6 ⟨rfl, hl⟩
    have B6 := Lib.hid (B5.out.trans (hl.mono B5.out.size))
    clear hl
    go_wp2_with fail
    go_meet
    exact ⟨B6.out, .inr ⟨rfl, by omega, HK1.out, HK2.out, HNE.out⟩⟩
  case rest =>
  obtain ⟨hbt, hs | ⟨hs, hn40, hkr, hor, hne⟩⟩ := hcut
  · subst hs
    have HT := Lib.hid hbt
    clear hbt
    go_wp2_with fail
    refine (awake20_any _).mono ?_
    rintro e w2 ⟨rfl, hl⟩
    have HL := Lib.hid (HWW.out.trans ((HT.out.trans (hl.mono HT.out.size)).mono HWW.out.size))
    clear hl
    go_wp2
    go_ret
    exact ⟨rfl, HL.out⟩
  subst hs
  have HT := Lib.hid hbt; have HNE := Lib.hid hne
  clear hbt hkr hor hne HS1 HS2 HR1 HR2 HQ k0 k1 k2 k3 k4 k5 d0 d1 d2 d3 d4 d5
  go_wp2_with fail
  refine (new_any _).mono ?_
  rintro e w1 ⟨rfl, hbx, hl⟩
  obtain ⟨W0, hW0⟩ : ∃ W0, W0 = wc := ⟨_, rfl⟩
  rw [← hW0] at hbx hl HT ⊢
  clear hW0
  obtain ⟨g, hg⟩ : ∃ g, g = W0.heap.size := ⟨_, rfl⟩
  have hg2 : W0.heap.size ≤ g := by omega
  rw [← hg] at hbx ⊢
  have HBR0 : Hid (BoxRow W0 g (.slice none 0 0) [] [] w1) := Lib.hid ⟨hbx, World.ownsRow_nil _ _ _ _, fun k hk => by simp [Value.ownBlock] at hk, fun u hu => by simp at hu, hg2, hl⟩
  have HKI0 := Lib.hid (HKI.out.below HT.out); have HOI0 := Lib.hid (HOI.out.below HT.out)
  have HKB0 := Lib.hid (HKB.out.below HT.out HKB.out.lt); have HOB0 := Lib.hid (HOB.out.below HT.out HOB.out.lt)
  have HW0 := HT
  have HWW0 := Lib.hid (HWW.out.trans (HT.out.mono HWW.out.size))
  clear hbx hl hg HKI HOI HKB HOB HWW
  have HKI := HKI0; have HOI := HOI0; have HKB := HKB0; have HOB := HOB0; have HWW := HWW0
  clear HKI0 HOI0 HKB0 HOB0 HWW0 HT
  go_wp2_with fail
  go_loopw [8, 9, 54] (fun sv rv iv wr => OrdRel W0 g n key other sv rv iv wr) (fun _ _ iv _ => n - (intOf iv).toNat)
  case atStart => exact ⟨0, 0, [], [], rfl, by omega, rfl, .nil, HBR0.out⟩
  case round =>
    clear HBR0
    obtain ⟨i, r, us, ms, rfl, hi, rfl, hord, hbr⟩ := hrel
    have HORD := Lib.hid hord; have HBR := Lib.hid hbr
    have hlen := hord.len
    have hle6 := hbr.box.2.1
    have hrow := hbr.row
    clear hord hbr
    by_cases hlt : i < n
    · have hil : i < V.xs.length := by rw [← HN.out]; exact hlt
      obtain ⟨xb, xo, rfl, hpx, hlc⟩ := HX.out i hil
      rw [← HN.out] at hlc
      obtain ⟨v, hv⟩ : ∃ v, v = V.xs[i]'hil := ⟨_, rfl⟩
      rw [← hv] at hpx
      have hpw := hpx.below (HW0.out.trans (HBR.out.all.mono HW0.out.size))
      have HVI := Lib.hid (hpx.in.below HW0.out)
      have x0 := hpw.c0; have x1 := hpw.c1; have x2 := hpw.c2; have x3 := hpw.c3; have x4 := hpw.c4; have x5 := hpw.c5
      obtain ⟨r4, t4, g4⟩ := hpw.in.nslice
      obtain ⟨r5, t5, g5⟩ := hpw.in.xslice
      rw [g4] at x4
      rw [g5] at x5
      have hk0 : (0 : Int) ≤ (i : Int) := by omega
      have hk1 : (i : Int) < (n : Int) := by omega
      have hVB := Blk.new wr 46 #[.int .i64 v.k, .int .i64 v.n, .float .f64 v.f, .string v.s, .slice r4 v.ns.length t4, .slice r5 v.xs.length t5]
      have hbA : Below wr.heap.size wr (wr.alloc (.cells #[.int .i64 v.k, .int .i64 v.n, .float .f64 v.f, .string v.s, .slice r4 v.ns.length t4, .slice r5 v.xs.length t5] 46)) := (Below.refl _ _).alloc (Nat.le_refl _) _
      have hsm := fun (W' : World) (hb : Below W0.heap.size W0 W') => small_any v W' (HVI.out.below hb)
      have hp1 := fun (W' : World) (hb : Below W0.heap.size W0 W') (hx : BoxAt W' g ms) => put_any key v g ms W' (HKI.out.below hb) (HVI.out.below hb) hx
      have hp2 := fun (W' : World) (hb : Below W0.heap.size W0 W') (hx : BoxAt W' g ms) => put_any other v g ms W' (HOI.out.below hb) (HVI.out.below hb) hx
      unfold Val.agg at hsm hp1 hp2
      simp only [g4, g5] at hsm hp1 hp2
      simp only [HKE.out.1, HKE.out.2] at hp1
      simp only [HOE.out.1, HOE.out.2] at hp2
      have HCE : Hid (v.cells = [.int .i64 v.k, .int .i64 v.n, .float .f64 v.f, .string v.s, .slice r4 v.ns.length t4, .slice r5 v.xs.length t5]) := Lib.hid (by unfold Val.cells; rw [g4, g5])
      have HSM := Lib.hid hsm; have HP1 := Lib.hid hp1; have HP2 := Lib.hid hp2
      have HBA := Lib.hid (HBR.out.below hbA)
      have HVB := Lib.hid hVB
      clear hil hv hpx hpw g4 g5 hsm hp1 hp2 hVB hbA
      have hwsz : wr.heap.size < (wr.alloc (.cells #[.int .i64 v.k, .int .i64 v.n, .float .f64 v.f, .string v.s, .slice r4 v.ns.length t4, .slice r5 v.xs.length t5] 46)).heap.size := by simp
      have hsf := run_store_flt
      go_wp2_with fail
      obtain ⟨WA, hWA⟩ : ∃ WA, WA = wr.alloc (.cells #[.int .i64 v.k, .int .i64 v.n, .float .f64 v.f, .string v.s, .slice r4 v.ns.length t4, .slice r5 v.xs.length t5] 46) := ⟨_, rfl⟩
      obtain ⟨vb, hvb⟩ : ∃ vb, vb = wr.heap.size := ⟨_, rfl⟩
      rw [← hWA] at HBA HVB hwsz ⊢
      rw [← hvb] at HVB hwsz ⊢
      clear hWA hvb x0 x1 x2 x3 x4 x5
      cases hs : v.smallB
      case false =>
        rw [hs] at HSM
        refine (HSM.out _ HBA.out.all).mono ?_
        rintro e w1 ⟨rfl, hl⟩
        have HE := Lib.hid (HBA.out.all.trans (hl.mono HBA.out.all.size))
        clear hl
        go_wp2
        go_ret
        exact ⟨rfl, HWW.out.trans (HE.out.mono HWW.out.size)⟩
      rw [hs] at HSM
      refine (HSM.out _ HBA.out.all).mono ?_
      rintro e w1 ⟨rfl, hl⟩
      have HB1 := Lib.hid (HBA.out.below hl)
      have hvb1 := HVB.out.below hl HVB.out.lt
      have HVB1 := Lib.hid hvb1
      clear hl hs HBA HVB HSM hwsz hvb1
      have x0 := HVB1.out.cell 0; have x1 := HVB1.out.cell 1; have x2 := HVB1.out.cell 2; have x3 := HVB1.out.cell 3; have x4 := HVB1.out.cell 4; have x5 := HVB1.out.cell 5
      simp only [List.getElem?_toArray, List.getElem?_cons_zero, List.getElem?_cons_succ] at x0 x1 x2 x3 x4 x5
      have k0 := (HKB.out.below HB1.out.all HKB.out.lt).cell 0; have k1 := (HKB.out.below HB1.out.all HKB.out.lt).cell 1; have k2 := (HKB.out.below HB1.out.all HKB.out.lt).cell 2; have k3 := (HKB.out.below HB1.out.all HKB.out.lt).cell 3; have k4 := (HKB.out.below HB1.out.all HKB.out.lt).cell 4; have k5 := (HKB.out.below HB1.out.all HKB.out.lt).cell 5; have d0 := (HOB.out.below HB1.out.all HOB.out.lt).cell 0; have d1 := (HOB.out.below HB1.out.all HOB.out.lt).cell 1; have d2 := (HOB.out.below HB1.out.all HOB.out.lt).cell 2; have d3 := (HOB.out.below HB1.out.all HOB.out.lt).cell 3; have d4 := (HOB.out.below HB1.out.all HOB.out.lt).cell 4; have d5 := (HOB.out.below HB1.out.all HOB.out.lt).cell 5
      simp only [List.getElem?_toArray, List.getElem?_cons_zero, List.getElem?_cons_succ] at k0 k1 k2 k3 k4 k5 d0 d1 d2 d3 d4 d5
      by_cases hm : i % 3 = 2
      · have t3 : ((i : Int) % 3 == 2) = true := by simp; omega
        have HM3 := Lib.hid hm
        clear hm
        go_wp2_with fail
        refine (HP2.out _ HB1.out.all HB1.out.box).mono ?_
        rintro e w2 ⟨c, ms', rfl, hbx, hon, hc⟩
        have HVB2 := Lib.hid (HVB1.out.grown hon (fun e => by
          have h1 := HVB1.out.ne_ HB1.out.box.1 (by decide)
          injection e with e
          exact h1 e))
        rcases hc with ⟨hc0, rfl⟩ | ⟨rfl, q1, q2, a, b, rfl, ea, eb, sa, sb⟩
        · have HB2 := Lib.hid (HB1.out.only hon hbx (fun m hm => .inl hm))
          have t4 := int_ne0 hc0
          clear hbx hon hc0 HB1 HVB1 HVB2 x0 x1 x2 x3 x4 x5 k0 k1 k2 k3 k4 k5 d0 d1 d2 d3 d4 d5
          go_wp2
          exact ⟨⟨i + 1, r, us, ms', by go_num, by omega, rfl, HORD.out, HB2.out⟩, by simp [intOf]; omega⟩
        · have HB2 := Lib.hid (HB1.out.only hon hbx (fun m hm => by
            rcases List.mem_append.1 hm with h | h
            · exact .inl h
            · obtain rfl : m = (a, b) := by simpa using h
              exact .inr ⟨sa, sb⟩))
          have HORD2 := Lib.hid (HORD.out.snoc_other (b := b) (Val.nf_stored ea) (Val.kinds_stored ea (Val.RightB.kinds q1)))
          clear hbx hon HB1 HVB1 HVB2 x0 x1 x2 x3 x4 x5 k0 k1 k2 k3 k4 k5 d0 d1 d2 d3 d4 d5 ea eb sa sb q1 q2
          have hr1 : r ≤ 6 := by omega
          go_wp2
          exact ⟨⟨i + 1, r + 1, us, _, by go_num, by omega, by go_num, HORD2.out, HB2.out⟩, by simp [intOf]; omega⟩
      · have t3 : ((i : Int) % 3 == 2) = false := by
          rw [beq_eq_false_iff_ne]; omega
        clear hm
        go_wp2_with fail
        refine (HP1.out _ HB1.out.all HB1.out.box).mono ?_
        rintro e w2 ⟨c, ms', rfl, hbx, hon, hc⟩
        have HVB2 := Lib.hid (HVB1.out.grown hon (fun e => by
          have h1 := HVB1.out.ne_ HB1.out.box.1 (by decide)
          injection e with e
          exact h1 e))
        rcases hc with ⟨hc0, rfl⟩ | ⟨rfl, q1, q2, a, b, rfl, ea, eb, sa, sb⟩
        · have HB2 := Lib.hid (HB1.out.only hon hbx (fun m hm => .inl hm))
          have t4 := int_ne0 hc0
          clear hbx hon hc0 HB1 HVB1 HVB2 x0 x1 x2 x3 x4 x5 k0 k1 k2 k3 k4 k5 d0 d1 d2 d3 d4 d5
          go_wp2
          exact ⟨⟨i + 1, r, us, ms', by go_num, by omega, rfl, HORD.out, HB2.out⟩, by simp [intOf]; omega⟩
        · have HB2 := Lib.hid (HB1.out.only hon hbx (fun m hm => by
            rcases List.mem_append.1 hm with h | h
            · exact .inl h
            · obtain rfl : m = (a, b) := by simpa using h
              exact .inr ⟨sa, sb⟩))
          have HORD2 := Lib.hid (HORD.out.snoc_mine (u := v) (Val.nf_stored ea) (Val.kinds_stored ea (Val.RightB.kinds q1)) (Val.kinds_stored eb (Val.RightB.kinds q2)) (Val.nf_stored eb))
          clear hbx hon HB1 HVB1 x0 x1 x2 x3 x4 x5 k0 k1 k2 k3 k4 k5 d0 d1 d2 d3 d4 d5 ea eb sa sb q1 q2
          have x0 := HVB2.out.cell 0; have x1 := HVB2.out.cell 1; have x2 := HVB2.out.cell 2; have x3 := HVB2.out.cell 3; have x4 := HVB2.out.cell 4; have x5 := HVB2.out.cell 5
          simp only [List.getElem?_toArray, List.getElem?_cons_zero, List.getElem?_cons_succ] at x0 x1 x2 x3 x4 x5
          have hred : Reads (w2.alloc (.cells #[.int .i64 v.k, .int .i64 v.n, .float .f64 v.f, .string v.s, .slice r4 v.ns.length t4, .slice r5 v.xs.length t5] 46)) (w2.heap.size + 1) 6 (some ⟨w2.heap.size, 0, none⟩) 1 v.cells := by
            rw [HCE.out]
            exact ⟨rfl, fun _ => ⟨_, rfl, by simp, cells_new w2 _ _⟩⟩
          have HRED := Lib.hid hred; have HOWN := Lib.hid (HB2.out.row.alloc (.cells #[.int .i64 v.k, .int .i64 v.n, .float .f64 v.f, .string v.s, .slice r4 v.ns.length t4, .slice r5 v.xs.length t5] 46))
          have hul : us.length ≤ 6 := by omega
          have hzz := HB2.out.all.size
          obtain ⟨i0, hi0, hz0, hz1, hz2⟩ := info_parts val_facts
          clear hred HVB2
          go_wp2_with (at_builtin; refine wpList_append_any _ rfl _ _ 42 rfl W0.heap.size 46 i0 (.agg #[.int .i64 0, .int .i64 0, .float .f64 0, .string ByteArray.empty, .slice none 0 0, .slice none 0 0]) 6 88 Try.underlying42 hi0 hz0 hz1 hz2 rfl (by decide) _ us.length (rowCells us) rfl HOWN.out (w2.heap.size + 1) _ 1 _ v.cells rfl HRED.out (cells_oneCell v) ?c1 ?c2 ?c3 ?_)
          case c1 => unfold maxLen; omega
          case c2 => omega
          case c3 => simp; omega
          intro v' w8 hown' hgrow hor
          have HB8 := Lib.hid (HB2.out.grown (u := v) HVI.out hgrow (by simpa using hor) hown' rfl)
          clear hown' hgrow hor hi0 hz0 hz1 hz2 x0 x1 x2 x3 x4 x5
          go_wp2
          exact ⟨⟨i + 1, r, us ++ [v], _, by go_num, by omega, rfl, HORD2.out, HB8.out⟩, by simp [intOf]; omega⟩
    · obtain rfl : i = n := by omega
      obtain ⟨wo, rfl⟩ : ∃ wo : World, wo = wr := ⟨_, rfl⟩
      obtain ⟨pm, cm, hsv, hpm⟩ := HBR.out.form
      obtain ⟨m, hm⟩ : ∃ m, m = us.length := ⟨_, rfl⟩
      rw [← hm] at hlen hsv
      subst hsv
      have HPM := Lib.hid hpm; have HM := Lib.hid hm
      have h6 : decide ((6 : Int) < (m : Int) + (r : Int)) = false := by simp; omega
      have h6' : decide (6 < m + r) = false := by simp; omega
      have hm6 : m ≤ 6 := by omega
      have hr6 : r ≤ 6 := by omega
      clear hpm hm hrow hle6 hlen
      go_wp2_with fail
      go_loopw [89] (fun jv wr => OrdRel2 W0 g r key other (.slice pm m cm) us jv wr) (fun jv _ => m - (intOf jv).toNat)
      case atStart => exact ⟨0, ms, rfl, by omega, HORD.out, HBR.out⟩
      case round =>
        obtain ⟨j, ms2, rfl, hj, hord, hbr⟩ := hrel
        rw [← HM.out] at hj
        have HORD2 := Lib.hid hord; have HBR2 := Lib.hid hbr
        clear hord hbr HORD HBR HPM
        obtain ⟨pm', cm', hsv, hpm⟩ := HBR2.out.form
        rw [← HM.out] at hsv
        injection hsv with e1 e2 e3
        subst e1 e3
        have HPM := Lib.hid hpm
        clear hpm e2
        have k0 := (HKB.out.below HBR2.out.all HKB.out.lt).cell 0; have k1 := (HKB.out.below HBR2.out.all HKB.out.lt).cell 1; have k2 := (HKB.out.below HBR2.out.all HKB.out.lt).cell 2; have k3 := (HKB.out.below HBR2.out.all HKB.out.lt).cell 3; have k4 := (HKB.out.below HBR2.out.all HKB.out.lt).cell 4; have k5 := (HKB.out.below HBR2.out.all HKB.out.lt).cell 5; have d0 := (HOB.out.below HBR2.out.all HOB.out.lt).cell 0; have d1 := (HOB.out.below HBR2.out.all HOB.out.lt).cell 1; have d2 := (HOB.out.below HBR2.out.all HOB.out.lt).cell 2; have d3 := (HOB.out.below HBR2.out.all HOB.out.lt).cell 3; have d4 := (HOB.out.below HBR2.out.all HOB.out.lt).cell 4; have d5 := (HOB.out.below HBR2.out.all HOB.out.lt).cell 5
        simp only [List.getElem?_toArray, List.getElem?_cons_zero, List.getElem?_cons_succ] at k0 k1 k2 k3 k4 k5 d0 d1 d2 d3 d4 d5
        by_cases hlt : j < m
        · have hjl : j < us.length := by rw [← HM.out]; exact hlt
          obtain ⟨kb, rfl, hmc, hkl, hpu⟩ := HPM.out j hjl
          rw [← HM.out] at hmc
          have hod := HORD2.out
          rw [drop_cons hjl] at hod
          have HUI := Lib.hid (HBR2.out.ins _ (List.getElem_mem hjl))
          obtain ⟨u, hu⟩ : ∃ u, u = us[j]'hjl := ⟨_, rfl⟩
          rw [← hu] at hpu hod HUI
          have x0 := hpu.c0; have x1 := hpu.c1; have x2 := hpu.c2; have x3 := hpu.c3; have x4 := hpu.c4; have x5 := hpu.c5
          simp only [Nat.zero_add] at x0 x1 x2 x3 x4 x5
          obtain ⟨r4, t4, g4⟩ := hpu.in.nslice
          obtain ⟨r5, t5, g5⟩ := hpu.in.xslice
          rw [g4] at x4
          rw [g5] at x5
          have hk0 : (0 : Int) ≤ (j : Int) := by omega
          have hk1 : (j : Int) < (m : Int) := by omega
          have HVB := Lib.hid (Blk.new wr 46 #[.int .i64 u.k, .int .i64 u.n, .float .f64 u.f, .string u.s, .slice r4 u.ns.length t4, .slice r5 u.xs.length t5])
          have HBA := Lib.hid (HBR2.out.below ((Below.refl _ _).alloc (Nat.le_refl _) (.cells #[.int .i64 u.k, .int .i64 u.n, .float .f64 u.f, .string u.s, .slice r4 u.ns.length t4, .slice r5 u.xs.length t5] 46)))
          have htk := fun (W' : World) (hb : Below W0.heap.size W0 W') (hx : BoxAt W' g ms2) => take_u key g ms2 W' (HKI.out.below hb) hx hod HNE.out
          unfold Val.agg at htk
          simp only [HKE.out.1, HKE.out.2] at htk
          have hsq := fun (b : Val) (W' : World) (hb : Below W0.heap.size W0 W') (hbi : b.In W') => rsamev_any b u W' hbi (HUI.out.below hb)
          unfold Val.agg at hsq
          simp only [g4, g5] at hsq
          have HTK := Lib.hid htk; have HSQ := Lib.hid hsq
          have hwsz : wr.heap.size < (wr.alloc (.cells #[.int .i64 u.k, .int .i64 u.n, .float .f64 u.f, .string u.s, .slice r4 u.ns.length t4, .slice r5 u.xs.length t5] 46)).heap.size := by simp
          clear hjl hpu hod hu g4 g5 htk hsq
          have hsf := run_store_flt
          have hkw := (HKB.out.below HBR2.out.all HKB.out.lt).lt
          go_wp2_with fail
          obtain ⟨WA, hWA⟩ : ∃ WA, WA = wr.alloc (.cells #[.int .i64 u.k, .int .i64 u.n, .float .f64 u.f, .string u.s, .slice r4 u.ns.length t4, .slice r5 u.xs.length t5] 46) := ⟨_, rfl⟩
          obtain ⟨vb, hvb⟩ : ∃ vb, vb = wr.heap.size := ⟨_, rfl⟩
          rw [← hWA] at HBA HVB hwsz ⊢
          rw [← hvb] at HVB hwsz ⊢
          clear hWA hvb x0 x1 x2 x3 x4 x5
          refine (HTK.out _ HBA.out.all HBA.out.box).mono ?_
          rintro e w3 ⟨b, ix, rfl, hbx, hon, hbi, hbk, hbn, hod⟩
          have HB3 := Lib.hid (HBA.out.only hon hbx (fun m hm => .inl (List.mem_of_mem_eraseIdx hm)))
          have HVB3 := Lib.hid (HVB.out.grown hon (fun e => by
            have h1 := HVB.out.ne_ HBA.out.box.1 (by decide)
            injection e with e
            exact h1 e))
          have HOD3 := Lib.hid hod
          obtain ⟨pb, qb, eb⟩ := hbi.nslice
          obtain ⟨pb2, qb2, eb2⟩ := hbi.xslice
          have hsq := HSQ.out b (w3.alloc (.cells #[.int .i64 b.k, .int .i64 b.n, .float .f64 b.f, .string b.s, .slice pb b.ns.length qb, .slice pb2 b.xs.length qb2] 46)) ((HB3.out.all).trans (((Below.refl w3.heap.size w3).alloc (Nat.le_refl _) _).mono HB3.out.all.size)) (hbi.below ((Below.refl _ _).alloc (Nat.le_refl _) _))
          simp only [eb, eb2] at hsq
          have hst : b.rsame u = true := by
            unfold Val.rsame
            rw [(Val.rord_nf b.sz b u (Nat.le_refl _) hbk).2 hbn]
            rfl
          rw [hst] at hsq
          have HSQ3 := Lib.hid hsq
          have HBA3 := Lib.hid (HB3.out.below ((Below.refl _ _).alloc (Nat.le_refl _) (.cells #[.int .i64 b.k, .int .i64 b.n, .float .f64 b.f, .string b.s, .slice pb b.ns.length qb, .slice pb2 b.xs.length qb2] 46)))
          unfold Val.agg
          rw [eb, eb2]
          have x0 := HVB3.out.cell 0; have x1 := HVB3.out.cell 1; have x2 := HVB3.out.cell 2; have x3 := HVB3.out.cell 3; have x4 := HVB3.out.cell 4; have x5 := HVB3.out.cell 5
          simp only [List.getElem?_toArray, List.getElem?_cons_zero, List.getElem?_cons_succ] at x0 x1 x2 x3 x4 x5
          have hvlt := HVB3.out.lt
          clear hbx hon hbi hbk hbn hod hsq hst HSQ HTK HBA HVB eb eb2 k0 k1 k2 k3 k4 k5 d0 d1 d2 d3 d4 d5 hwsz
          go_wp2_with fail
          refine HSQ3.out.mono ?_
          rintro e w4 ⟨rfl, hl⟩
          have HB4 := Lib.hid (HBA3.out.below hl)
          clear hl HBA3 HSQ3 HB3 x0 x1 x2 x3 x4 x5
          go_wp2
          exact ⟨⟨j + 1, _, by go_num, by rw [← HM.out]; omega, HOD3.out, HB4.out⟩, by simp [intOf]; omega⟩
        · have hjm : us.drop j = [] := List.drop_eq_nil_of_le (by rw [← HM.out]; omega)
          have hod := HORD2.out
          rw [hjm] at hod
          have htk := take_none_of key g ms2 wr (HKI.out.below HBR2.out.all) HBR2.out.box hod HNE.out
          unfold Val.agg at htk
          simp only [HKE.out.1, HKE.out.2] at htk
          have hlen2 := hod.len
          simp only [List.length_nil, Nat.zero_add] at hlen2
          have HTK := Lib.hid htk; have HL2 := Lib.hid hlen2
          clear hjm hod htk hlen2
          have hsf := run_store_flt
          go_wp2_with fail
          refine HTK.out.mono ?_
          rintro e w3 ⟨rfl, hl⟩
          have HB3 := Lib.hid (HBR2.out.below hl)
          have HB4 := Lib.hid (HB3.out.below ((Below.refl _ _).alloc (Nat.le_refl _) (.cells #[.int .i64 0, .int .i64 0, .float .f64 0, .string ⟨#[]⟩, .slice none 0 0, .slice none 0 0] 46)))
          clear hl HTK k0 k1 k2 k3 k4 k5 d0 d1 d2 d3 d4 d5
          go_wp2_with fail
          refine (len_any _ g ms2 HB4.out.box).mono ?_
          rintro e w4 ⟨rfl, rfl⟩
          rw [HL2.out]
          go_wp2
          go_ret
          exact ⟨by simp, HWW.out.trans (HB4.out.all.mono HWW.out.size)⟩

set_option maxRecDepth 100000 in
theorem walk {H : Type} {enc : TypeId × Value → H} {W : World} {base : Nat} {args : Array Value} {ds : List (DataW H)} {ps : List MemPlace}
    (h : Handed enc Try.prog W base Try.f5.params.toList args ds ps) : Calls Try.prog 5 args W fun e w' => TrueBelow W e w' := by
  rw [Try.params5] at h
  have hval := h.val
  obtain ⟨v0, vs0, d0, ds0, p0, q0, hargs, rfl, rfl, h0, r0⟩ := trodAll_cons h.trod
  obtain ⟨v1, vs1, d1, ds1, p1, q1, rfl, rfl, rfl, h1, r1⟩ := trodAll_cons r0
  obtain ⟨v2, vs2, d2, ds2, p2, q2, rfl, rfl, rfl, h2, r2⟩ := trodAll_cons r1
  obtain ⟨rfl, rfl, rfl⟩ := trodAll_nil r2
  obtain rfl : args = #[v0, v1, v2] := by cases args; simp_all
  obtain ⟨a0, l0, c0, e0⟩ := okWide_slice Try.underlying42 (hval 0 42 v0 rfl rfl)
  have hv1 := hval 1 46 v1 rfl rfl
  have hv2 := hval 2 46 v2 rfl rfl
  unfold Value.okWide at hv1 hv2
  rw [Try.underlying46] at hv1 hv2
  obtain ⟨cs1, he1, _⟩ := hv1
  obtain ⟨cs2, he2, _⟩ := hv2
  obtain ⟨V, rfl, hV⟩ := arg_vals e0 h0 0 h.fits rfl rfl
  obtain ⟨key, rfl, hk⟩ := arg_val he1 h1 1 h.fits rfl rfl
  obtain ⟨other, rfl, ho⟩ := arg_val he2 h2 2 h.fits rfl rfl
  exact law_any V key other W hV hk ho


set_option maxRecDepth 100000 in
theorem lifted (os : Os) (started : os.Started) (H : Type) (enc : TypeId × Value → H) :
    ReturnsInHanded {} Try.checked os 5 .any (Rows.postOrderSpec.pre6 enc Try.prog Try.f5 Rows.postOrderRow.domain false) (Rows.postOrderSpec.post enc Try.prog Try.f5 false true false false) := by
  refine returnsInHanded_of_change_sized (C := Try.checked) own started (by kernel_rfl) Try.func5
    (ChangeSpec.witness6 (enc := enc) (C := Try.checked) false ⟨#[], #[.slice none 0 0, .agg #[.int .i64 0, .int .i64 0, .float .f64 0, .string ByteArray.empty, .slice none 0 0, .slice none 0 0], .agg #[.int .i64 0, .int .i64 0, .float .f64 0, .string ByteArray.empty, .slice none 0 0, .slice none 0 0]], []⟩ 8 (by kernel_rfl) (by kernel_rfl) (by kernel_rfl) (by kernel_rfl)) ?_
  intro W base args ds gs before hval hW _ hsz _
  refine (walk (handed_of hval hW rfl rfl hsz)).mono fun e W' ⟨he, hb⟩ => ?_
  subst he
  exact ⟨_, rfl, law_post hW rfl laidOut (by kernel_rfl) rfl Try.underlying4 (fun ds' h => by match ds', h with | [_, _, _], _ => rfl) hb⟩

theorem over : Rows.postOrderRow.holds Try.pinned (OpenSpec.ofChange Rows.postOrderSpec) :=
  OpenClaim.holds_of_wide 5 Try.f5 rfl rfl rfl rfl rfl rfl rfl ⟨rfl, rfl, rfl, rfl, rfl⟩ rfl rfl rfl rfl rfl (by kernel_rfl) Try.func5 (by kernel_rfl)
    (of_decide_eq_true (by kernel_rfl)) (by unfold Func.isWrapper; first | (rw [if_pos (by decide +kernel)]; kernel_rfl) | (rw [if_neg (by decide +kernel)]; exact ⟨rfl, rfl⟩))
    (fun os started H enc _ => lifted os started H enc)

theorem proved : Rows.PostOrderSaid :=
  over
#print axioms proved
end Go.Proofs.Ytemhinagajfemaa.postOrder
