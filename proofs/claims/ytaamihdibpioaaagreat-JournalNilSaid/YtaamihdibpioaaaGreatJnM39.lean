/- value.Same of what is no value: is it none at all? -/
import Derived.Test.YtaamihdibpioaaaGreatJnM25
import Derived.Test.YtaamihdibpioaaaGreatJnM35
import Derived.Test.YtaamihdibpioaaaGreatJnM38
import Derived.Deep.RegionHeld3
namespace Go.Proofs.YtaamihdibpioaaaGreat
set_option linter.unusedVariables false
open Go.RowKit

/-- cmp.Or of three numbers. -/
def or3 (x y z : Int) : Int := if x ≠ 0 then x else if y ≠ 0 then y else z
theorem ret_i {k : IntKind} {a b : Int} (h : a = b) : Ending.returned (.int k a) = .returned (.int k b) := by rw [h]
set_option maxHeartbeats 1000000 in
theorem or3_any (b : Nat) (x y z : Int) (w : World) (h : Blk w b 3 #[.int .i64 x, .int .i64 y, .int .i64 z]) :
    Calls Tryz.prog 169 #[.slice (some ⟨b, 0, none⟩) 3 3] w fun e w' => e = .returned (.int .i64 (or3 x y z)) ∧ w = w' := by
  have h0 := h.cell 0; have h1 := h.cell 1; have h2 := h.cell 2
  simp at h0 h1 h2
  clear h
  obtain ⟨r, hr⟩ : ∃ r, r = or3 x y z := ⟨_, rfl⟩
  rw [← hr]
  have HR := Lib.hid hr
  clear hr
  go_enter Tryz.func169, Tryz.ntmps169
  go_wp2
  go_loop [8] (fun iv => ∃ k : Nat, k ≤ 3 ∧ iv = .int .i64 k ∧ Hid ((1 ≤ k → x = 0) ∧ (2 ≤ k → y = 0) ∧ (3 ≤ k → z = 0))) (fun iv => 3 - (intOf iv).toNat)
  case atStart => exact ⟨0, by omega, rfl, Lib.hid ⟨fun h => absurd h (by omega), fun h => absurd h (by omega), fun h => absurd h (by omega)⟩⟩
  case round =>
    obtain ⟨k, hk, rfl, HP⟩ := hrel
    rcases (by omega : k = 0 ∨ k = 1 ∨ k = 2 ∨ k = 3) with rfl | rfl | rfl | rfl
    · by_cases hz : x = 0
      · have HZ := Lib.hid hz
        have i2 : (x != 0) = false := by simpa using hz
        clear hz
        go_wp2
        go_round
        case rel => exact ⟨1, by omega, rfl, Lib.hid ⟨fun _ => HZ.out, fun h => absurd h (by omega), fun h => absurd h (by omega)⟩⟩
        case measure => simp [intOf]
      · have HZ := Lib.hid hz
        have i2 : (x != 0) = true := by simpa using hz
        clear hz
        go_wp2
        go_ret
        exact ⟨ret_i (by rw [HR.out]; unfold or3; rw [if_pos HZ.out]), rfl⟩
    · have HX := Lib.hid (HP.out.1 (by omega))
      by_cases hz : y = 0
      · have HZ := Lib.hid hz
        have i2 : (y != 0) = false := by simpa using hz
        clear hz
        go_wp2
        go_round
        case rel => exact ⟨2, by omega, rfl, Lib.hid ⟨fun _ => HX.out, fun _ => HZ.out, fun h => absurd h (by omega)⟩⟩
        case measure => simp [intOf]
      · have HZ := Lib.hid hz
        have i2 : (y != 0) = true := by simpa using hz
        clear hz
        go_wp2
        go_ret
        exact ⟨ret_i (by rw [HR.out]; unfold or3; rw [if_neg (by simp [HX.out]), if_pos HZ.out]), rfl⟩
    · have HX := Lib.hid (HP.out.1 (by omega))
      have HY := Lib.hid (HP.out.2.1 (by omega))
      by_cases hz : z = 0
      · have HZ := Lib.hid hz
        have i2 : (z != 0) = false := by simpa using hz
        clear hz
        go_wp2
        go_round
        case rel => exact ⟨3, by omega, rfl, Lib.hid ⟨fun _ => HX.out, fun _ => HY.out, fun _ => HZ.out⟩⟩
        case measure => simp [intOf]
      · have HZ := Lib.hid hz
        have i2 : (z != 0) = true := by simpa using hz
        clear hz
        go_wp2
        go_ret
        exact ⟨ret_i (by rw [HR.out]; unfold or3; rw [if_neg (by simp [HX.out]), if_neg (by simp [HY.out])]), rfl⟩
    · go_wp2
      go_ret
      exact ⟨ret_i (by rw [HR.out]; unfold or3; rw [if_neg (by simp [HP.out.1 (by omega)]), if_neg (by simp [HP.out.2.1 (by omega)]), HP.out.2.2 (by omega)]), rfl⟩

/-- What two that are no values differ in, but for their items. -/
def Val.row0 (v u : Val) : Int := or3 (sgnI v.n u.n) (Lib.compareBytes v.s.data.toList u.s.data.toList) (ncmp v.ns u.ns)
theorem six_all {W : World} {b o b' o' : Nat} {x0 x1 x2 y0 y1 y2 : Value} (h : W.cell? ⟨b, o + 1, none⟩ = some x0 ∧ W.cell? ⟨b, o + 3, none⟩ = some x1 ∧ W.cell? ⟨b, o + 4, none⟩ = some x2 ∧ W.cell? ⟨b', o' + 1, none⟩ = some y0 ∧ W.cell? ⟨b', o' + 3, none⟩ = some y1 ∧ W.cell? ⟨b', o' + 4, none⟩ = some y2) (h1 : b < W.heap.size) (h2 : b' < W.heap.size) (x : Obj) :
    (W.alloc x).cell? ⟨b, o + 1, none⟩ = some x0 ∧ (W.alloc x).cell? ⟨b, o + 3, none⟩ = some x1 ∧ (W.alloc x).cell? ⟨b, o + 4, none⟩ = some x2 ∧ (W.alloc x).cell? ⟨b', o' + 1, none⟩ = some y0 ∧ (W.alloc x).cell? ⟨b', o' + 3, none⟩ = some y1 ∧ (W.alloc x).cell? ⟨b', o' + 4, none⟩ = some y2 := by
  obtain ⟨g0, g1, g2, g3, g4, g5⟩ := h
  refine ⟨?_, ?_, ?_, ?_, ?_, ?_⟩
  · rw [World.cell?_alloc_lt W x _ h1]; exact g0
  · rw [World.cell?_alloc_lt W x _ h1]; exact g1
  · rw [World.cell?_alloc_lt W x _ h1]; exact g2
  · rw [World.cell?_alloc_lt W x _ h2]; exact g3
  · rw [World.cell?_alloc_lt W x _ h2]; exact g4
  · rw [World.cell?_alloc_lt W x _ h2]; exact g5
set_option maxHeartbeats 4000000 in
set_option maxRecDepth 100000 in
theorem row0_any (v u : Val) (b o b' o' : Nat) (w : World) (hv : PVal w b o v) (hu : PVal w b' o' u) (hk : v.k = 0) :
    Calls Tryz.prog 136 #[.pointer (some ⟨b, o, none⟩), .pointer (some ⟨b', o', none⟩)] w fun e w' => IntBelow (v.row0 u) w e w' := by
  have c0 := hv.c0; have c1 := hv.c1; have c3 := hv.c3; have c4 := hv.c4
  have d1 := hu.c1; have d3 := hu.c3; have d4 := hu.c4
  rw [hk] at c0
  obtain ⟨p, q, e4⟩ := hv.in.nslice
  obtain ⟨p', q', f4⟩ := hu.in.nslice
  have hna := fun n => NamesAt.of (hv.in.drewN n)
  have hnb := fun n => NamesAt.of (hu.in.drewN n)
  rw [e4] at c4
  rw [f4] at d4
  simp only [e4] at hna
  simp only [f4] at hnb
  have hl1 := hv.in.ok.2.2.2.2.1
  have hl2 := hu.in.ok.2.2.2.2.1
  have hbl := hv.2.1
  have hbl' := hu.2.1
  obtain ⟨a0, ha0⟩ : ∃ a0, a0 = v.n := ⟨_, rfl⟩
  obtain ⟨a1, ha1⟩ : ∃ a1, a1 = u.n := ⟨_, rfl⟩
  obtain ⟨s0, hs0⟩ : ∃ s0, s0 = v.s := ⟨_, rfl⟩
  obtain ⟨s1, hs1⟩ : ∃ s1, s1 = u.s := ⟨_, rfl⟩
  obtain ⟨m0, hm0⟩ : ∃ m0, m0 = v.ns := ⟨_, rfl⟩
  obtain ⟨m1, hm1⟩ : ∃ m1, m1 = u.ns := ⟨_, rfl⟩
  obtain ⟨r, hr⟩ : ∃ r, r = v.row0 u := ⟨_, rfl⟩
  have hr2 : r = or3 (sgnI a0 a1) (Lib.compareBytes s0.data.toList s1.data.toList) (ncmp m0 m1) := by rw [hr, ha0, ha1, hs0, hs1, hm0, hm1]; rfl
  rw [← hr]
  rw [← ha0] at c1
  rw [← ha1] at d1
  rw [← hs0] at c3
  rw [← hs1] at d3
  rw [← hm0] at c4 hl1
  rw [← hm1] at d4 hl2
  simp only [← hm0] at hna
  simp only [← hm1] at hnb
  have HNA := Lib.hid hna; have HNB := Lib.hid hnb; have HL1 := Lib.hid hl1; have HL2 := Lib.hid hl2; have HR := Lib.hid hr2
  clear hv hu hk e4 f4 hna hnb hl1 hl2 ha0 ha1 hs0 hs1 hm0 hm1 hr hr2
  have HS := Lib.hid (show w.drew.cell? ⟨b, o + 1, none⟩ = some (.int .i64 a0) ∧ w.drew.cell? ⟨b, o + 3, none⟩ = some (.string s0) ∧ w.drew.cell? ⟨b, o + 4, none⟩ = some (.slice p m0.length q) ∧ w.drew.cell? ⟨b', o' + 1, none⟩ = some (.int .i64 a1) ∧ w.drew.cell? ⟨b', o' + 3, none⟩ = some (.string s1) ∧ w.drew.cell? ⟨b', o' + 4, none⟩ = some (.slice p' m1.length q') from ⟨c1, c3, c4, d1, d3, d4⟩)
  have HSN := Lib.hid (fun n => (show (w.drewN n).cell? ⟨b, o + 1, none⟩ = some (.int .i64 a0) ∧ (w.drewN n).cell? ⟨b, o + 3, none⟩ = some (.string s0) ∧ (w.drewN n).cell? ⟨b, o + 4, none⟩ = some (.slice p m0.length q) ∧ (w.drewN n).cell? ⟨b', o' + 1, none⟩ = some (.int .i64 a1) ∧ (w.drewN n).cell? ⟨b', o' + 3, none⟩ = some (.string s1) ∧ (w.drewN n).cell? ⟨b', o' + 4, none⟩ = some (.slice p' m1.length q') from ⟨c1, c3, c4, d1, d3, d4⟩))
  have HA := Lib.hid (fun (W : World) (x : Obj) (h : W.cell? ⟨b, o + 1, none⟩ = some (.int .i64 a0) ∧ W.cell? ⟨b, o + 3, none⟩ = some (.string s0) ∧ W.cell? ⟨b, o + 4, none⟩ = some (.slice p m0.length q) ∧ W.cell? ⟨b', o' + 1, none⟩ = some (.int .i64 a1) ∧ W.cell? ⟨b', o' + 3, none⟩ = some (.string s1) ∧ W.cell? ⟨b', o' + 4, none⟩ = some (.slice p' m1.length q')) (h1 : b < W.heap.size) (h2 : b' < W.heap.size) => six_all h h1 h2 x)
  have HAN := Lib.hid (fun (n : Nat) (x : Obj) => HA.out (w.drewN n) x (HSN.out n) hbl hbl')
  go_enter Tryz.func136, Tryz.ntmps136
  go_wp2_with fail
  go_region_held3 (fun W => W.cell? ⟨b, o + 1, none⟩ = some (.int .i64 a0) ∧ W.cell? ⟨b, o + 3, none⟩ = some (.string s0) ∧ W.cell? ⟨b, o + 4, none⟩ = some (.slice p m0.length q) ∧ W.cell? ⟨b', o' + 1, none⟩ = some (.int .i64 a1) ∧ W.cell? ⟨b', o' + 3, none⟩ = some (.string s1) ∧ W.cell? ⟨b', o' + 4, none⟩ = some (.slice p' m1.length q'))
    (first | with_reducible exact HS.out | with_reducible exact HSN.out _ | with_reducible assumption | with_reducible exact HA.out _ _ HS.out hbl hbl' | with_reducible exact HAN.out _ _ | fail)
    (first
      | (go_at_call 165; refine (cmp_int64 _ _ _).mono ?_; rintro e w' ⟨rfl, rfl⟩)
      | (go_at_call 167; refine (strcmp_any _ _ _).mono ?_; rintro e w' ⟨rfl, rfl⟩)
      | (go_at_call 168; refine (ncmp_any _ _ m0 m1 _ (HNA.out _) (HNB.out _) HL1.out HL2.out).mono ?_; rintro e w' ⟨rfl, rfl⟩)
      | (go_at_call 169; refine (or3_any _ _ _ _ _ (Blk.new (w.drewN _) _ _)).mono ?_; rintro e w' ⟨rfl, rfl⟩)
      | fail)
  all_goals
    go_wp2
    go_ret
    exact ⟨ret_i HR.out.symm, ((Below.refl _ _).alloc (Nat.le_refl _) _).drew⟩
/-- Lists' items beside none at all. -/
def cfun0 (L : Nat) : Int := if L = 0 then 0 else 1
set_option maxHeartbeats 1000000 in
set_option maxRecDepth 100000 in
theorem cfun0_any (v : Val) (w : World) (hv : v.In w) :
    Calls Tryz.prog 138 #[v.xa.val v.xs.length, .slice none 0 0, .func (Fn.func 119) #[] #[]] w fun e w' => IntBelow (cfun0 v.xs.length) w e w' := by
  have hsf := run_store_flt
  have hl1 := hv.ok.2.2.2.2.2.1
  obtain ⟨p, c, e1, A4⟩ := items_at hv
  rw [e1]
  obtain ⟨L, hL⟩ : ∃ L, L = v.xs.length := ⟨_, rfl⟩
  rw [← hL] at hl1 ⊢
  have HL := Lib.hid hL; have HA := Lib.hid A4
  clear e1 A4 hL hv
  by_cases h0 : L = 0
  · subst h0
    have HE : Hid (cfun0 0 = 0) := Lib.hid rfl
    clear HL HA
    go_enter Tryz.func138, Tryz.ntmps138
    go_wp2_with fail
    go_loopw [13] (fun iv wr => iv = .int .i64 0 ∧ Hid (Below w.heap.size w wr)) (fun iv _ => 0)
    case atStart => exact ⟨rfl, Lib.hid (Below.refl _ _)⟩
    case round =>
      obtain ⟨rfl, HBL⟩ := hrel
      go_wp2
      go_ret
      exact ⟨by rw [HE.out]; rfl, HBL.out⟩
  · have HE : Hid (cfun0 L = 1) := Lib.hid (by unfold cfun0; rw [if_neg h0])
    have hil : 0 < v.xs.length := by rw [← HL.out]; omega
    obtain ⟨b, o, rfl, hp, hLc⟩ := HA.out 0 hil
    rw [← HL.out] at hLc
    obtain ⟨x, hx⟩ : ∃ x, x = v.xs[0]'hil := ⟨_, rfl⟩
    rw [← hx] at hp
    have hL0 : (0 : Int) < (L : Int) := by omega
    go_enter Tryz.func138, Tryz.ntmps138
    go_wp2_with fail
    go_loopw [13] (fun iv wr => iv = .int .i64 0 ∧ Hid (Below w.heap.size w wr)) (fun iv _ => 0)
    case atStart => exact ⟨rfl, Lib.hid (Below.refl _ _)⟩
    case round =>
      obtain ⟨rfl, HBL⟩ := hrel
      have hpr := hp.below HBL.out
      have d0 := hpr.c0; have d1 := hpr.c1; have d2 := hpr.c2; have d3 := hpr.c3; have d4 := hpr.c4; have d5 := hpr.c5
      obtain ⟨r4, t4, g4⟩ := hpr.in.nslice
      obtain ⟨r5, t5, g5⟩ := hpr.in.xslice
      rw [g4] at d4
      rw [g5] at d5
      simp only [Nat.zero_mul, Nat.add_zero] at d0 d1 d2 d3 d4 d5
      have HF := Lib.hid (HBL.out.trans (((Below.refl wr.heap.size wr).alloc (Nat.le_refl _) (.cells #[.int .i64 x.k, .int .i64 x.n, .float .f64 x.f, .string x.s, .slice r4 x.ns.length t4, .slice r5 x.xs.length t5] 37)).mono HBL.out.size))
      clear hpr hp hx g4 g5 HL HA hil h0
      go_wp2
      go_ret
      exact ⟨by rw [HE.out]; rfl, HF.out⟩
def Val.ord0 (v u : Val) : Int := if v.row0 u ≠ 0 then v.row0 u else cfun0 v.xs.length
set_option maxHeartbeats 4000000 in
set_option maxRecDepth 100000 in
theorem ord0_any (v : Val) (w : World) (hv : v.In w) (hk : v.k = 0) : Calls Tryz.prog 119 #[v.agg, Val.zero.agg] w fun e w' => IntBelow (v.ord0 Val.zero) w e w' := by
  obtain ⟨W, hW⟩ : ∃ W, W = (w.alloc (.cells #[.int .i64 v.k, .int .i64 v.n, .float .f64 v.f, .string v.s, v.na.val v.ns.length, v.xa.val v.xs.length] 37)).alloc (.cells #[.int .i64 0, .int .i64 0, .float .f64 0, .string ByteArray.empty, .slice none 0 0, .slice none 0 0] 37) := ⟨_, rfl⟩
  have hbW : Below w.heap.size w W := by rw [hW]; exact ((Below.refl _ _).alloc (Nat.le_refl _) _).alloc (by simp) _
  have hz : ∀ W : World, Val.zero.In W := fun W => by
    rw [Val.in_iff]
    exact ⟨⟨by unfold i64r; decide, by unfold i64r; decide, by decide, by unfold strok; decide, by decide, by decide, fun s hs => by cases hs⟩, rfl, rfl, fun x hx => by cases hx⟩
  have hpv : PVal W w.heap.size 0 v := by
    rw [hW]
    exact (PVal.new w v 37 hv).below ((Below.refl _ _).alloc (Nat.le_refl _) _)
  have hpu : PVal W (w.heap.size + 1) 0 Val.zero := by
    rw [hW]
    have := PVal.new (w.alloc (.cells #[.int .i64 v.k, .int .i64 v.n, .float .f64 v.f, .string v.s, v.na.val v.ns.length, v.xa.val v.xs.length] 37)) Val.zero 37 (hz _)
    rw [show (w.alloc (.cells #[.int .i64 v.k, .int .i64 v.n, .float .f64 v.f, .string v.s, v.na.val v.ns.length, v.xa.val v.xs.length] 37)).heap.size = w.heap.size + 1 from by simp] at this
    exact this
  have hrow := row0_any v Val.zero w.heap.size 0 (w.heap.size + 1) 0 W hpv hpu hk
  have hcf := fun (W' : World) (hb : Below W.heap.size W W') => cfun0_any v W' (hpv.in.below hb)
  have hoe : v.ord0 Val.zero = if v.row0 Val.zero ≠ 0 then v.row0 Val.zero else cfun0 v.xs.length := rfl
  have c0 := hpv.c0; have c5 := hpv.c5; have d0 := hpu.c0; have d5 := hpu.c5
  rw [hk] at c0 hW
  simp only [Nat.zero_add] at c5 d5
  have hag : v.agg = .agg #[.int .i64 0, .int .i64 v.n, .float .f64 v.f, .string v.s, v.na.val v.ns.length, v.xa.val v.xs.length] := by unfold Val.agg; rw [hk]
  rw [hag]
  obtain ⟨p4, q4, e4⟩ := hv.nslice
  obtain ⟨p5, q5, e5⟩ := hv.xslice
  rw [e4, e5] at hW ⊢
  rw [e5] at c5
  simp only [e5] at hcf
  have d0' : W.cell? ⟨w.heap.size + 1, 0, none⟩ = some (.int .i64 0) := d0
  have d5' : W.cell? ⟨w.heap.size + 1, 5, none⟩ = some (.slice none 0 0) := d5
  have hzag : Val.zero.agg = .agg #[.int .i64 0, .int .i64 0, .float .f64 0, .string ByteArray.empty, .slice none 0 0, .slice none 0 0] := rfl
  rw [hzag]
  obtain ⟨r, hr⟩ : ∃ r, r = v.row0 Val.zero := ⟨_, rfl⟩
  obtain ⟨q, hq⟩ : ∃ q, q = cfun0 v.xs.length := ⟨_, rfl⟩
  obtain ⟨O, hO⟩ : ∃ O, O = v.ord0 Val.zero := ⟨_, rfl⟩
  have hcf' := fun (W' : World) (hb : Below W.heap.size W W') => hcf W' hb
  rw [← hO, ← hr, ← hq] at hoe
  rw [← hO]
  rw [← hr] at hrow
  have hcm := fun (W : World) => cmp_int 0 0 W
  have hlf := fun (W : World) => leaf_any 0 W
  have hcf3 : ∀ W' : World, Below W.heap.size W W' → Calls Tryz.prog 138 #[.slice p5 v.xs.length q5, .slice none 0 0, .func (Fn.func 119) #[] #[]] W' fun e w' => IntBelow q W' e w' := fun W' hb => by
    have := hcf W' hb
    rw [hq]
    exact this
  have hlt := hpv.2.1
  have hlt2 := hpu.2.1
  have HOE := Lib.hid hoe; have HROW := Lib.hid hrow; have HCF := Lib.hid hcf3; have HCM := Lib.hid hcm; have HLF := Lib.hid hlf; have HW := Lib.hid hW; have HBW := Lib.hid hbW
  have C0 := Lib.hid c0; have C5 := Lib.hid c5; have D5 := Lib.hid d5'
  have HLT := Lib.hid hlt; have HLT2 := Lib.hid hlt2
  clear hoe hrow hcf hcf' hcf3 hcm hlf hW hbW hr hq hO hpv hpu hv hk hag hzag hz e4 e5 d0 d5 hlt hlt2
  by_cases h1 : r = 0
  · subst h1
    have HE : Hid (O = q) := Lib.hid (by rw [HOE.out, if_neg (by simp)])
    go_enter Tryz.func119, Tryz.ntmps119
    go_wp2_with fail
    rw [← HW.out]
    refine (HCM.out _).mono ?_
    rintro e w' ⟨rfl, rfl⟩
    go_wp2_with fail
    refine HROW.out.mono ?_
    rintro e w1 ⟨rfl, hb1⟩
    have B1 := Lib.hid hb1
    have c0' : w1.cell? ⟨w.heap.size, 0, none⟩ = some (.int .i64 0) := (hb1.cell (p := ⟨w.heap.size, 0, none⟩) HLT.out).trans C0.out
    have c5' : w1.cell? ⟨w.heap.size, 5, none⟩ = some (.slice p5 v.xs.length q5) := (hb1.cell (p := ⟨w.heap.size, 5, none⟩) HLT.out).trans C5.out
    have d5'' : w1.cell? ⟨w.heap.size + 1, 5, none⟩ = some (.slice none 0 0) := (hb1.cell (p := ⟨w.heap.size + 1, 5, none⟩) HLT2.out).trans D5.out
    clear hb1 c0 c5 d0' d5'
    go_wp2_with fail
    refine (HLF.out _).mono ?_
    rintro e w' ⟨rfl, rfl⟩
    go_wp2_with fail
    refine (HCF.out _ B1.out).mono ?_
    rintro e w6 ⟨rfl, hb6⟩
    have HB6 := Lib.hid (HBW.out.trans ((B1.out.trans (hb6.mono B1.out.size)).mono HBW.out.size))
    clear hb6
    go_wp2
    go_ret
    exact ⟨by rw [HE.out]; rfl, HB6.out⟩
  · have HE : Hid (O = r) := Lib.hid (by rw [HOE.out, if_pos h1])
    have i1 : (r != 0) = true := by simpa using h1
    have i2 : (r == 0) = false := by simpa using h1
    clear h1 HOE HCF
    go_enter Tryz.func119, Tryz.ntmps119
    go_wp2_with fail
    rw [← HW.out]
    refine (HCM.out _).mono ?_
    rintro e w' ⟨rfl, rfl⟩
    go_wp2_with fail
    refine HROW.out.mono ?_
    rintro e w1 ⟨rfl, hb1⟩
    have HB6 := Lib.hid (HBW.out.trans (hb1.mono HBW.out.size))
    clear hb1
    go_wp2
    go_ret
    exact ⟨by rw [HE.out]; rfl, HB6.out⟩
/-- Is what is no value none at all? -/
def Val.same0 (v : Val) : Bool := v.ord0 Val.zero == 0
theorem same0_none {v : Val} (h : v.noneB = true) : v.same0 = true := by
  unfold Val.noneB at h
  simp only [Bool.and_eq_true, decide_eq_true_eq] at h
  obtain ⟨⟨⟨⟨⟨h1, h2⟩, h3⟩, h4⟩, h5⟩, h6⟩ := h
  have e : v.s = ByteArray.empty := by
    refine ByteArray.ext (Array.ext' ?_)
    have h9 : v.s.toList = v.s.data.toList := Lib.toList_data v.s
    rw [h9] at h4
    simpa using h4
  unfold Val.same0 Val.ord0 Val.row0
  rw [h2, e, List.eq_nil_of_length_eq_zero h5, List.eq_nil_of_length_eq_zero h6]
  decide
set_option maxHeartbeats 1000000 in
theorem same0_any (v : Val) (w : World) (hv : v.In w) (hk : v.k = 0) : Calls Tryz.prog 98 #[v.agg, Val.zero.agg] w fun e w' => BoolBelow v.same0 w e w' := by
  obtain ⟨W, hW⟩ : ∃ W, W = (w.alloc (.cells #[.int .i64 v.k, .int .i64 v.n, .float .f64 v.f, .string v.s, v.na.val v.ns.length, v.xa.val v.xs.length] 37)).alloc (.cells #[.int .i64 0, .int .i64 0, .float .f64 0, .string ByteArray.empty, .slice none 0 0, .slice none 0 0] 37) := ⟨_, rfl⟩
  have hbW : Below w.heap.size w W := by rw [hW]; exact ((Below.refl _ _).alloc (Nat.le_refl _) _).alloc (by simp) _
  have ho := ord0_any v W (hv.below hbW) hk
  have hs : v.same0 = (v.ord0 Val.zero == 0) := rfl
  obtain ⟨c, hc⟩ : ∃ c, c = v.ord0 Val.zero := ⟨_, rfl⟩
  rw [← hc] at ho hs
  have hzag : Val.zero.agg = .agg #[.int .i64 0, .int .i64 0, .float .f64 0, .string ByteArray.empty, .slice none 0 0, .slice none 0 0] := rfl
  rw [hzag] at ho ⊢
  have HW := Lib.hid hW; have HB := Lib.hid hbW; have HO := Lib.hid ho; have HS := Lib.hid hs
  clear hW hbW ho hs hc hv hk hzag
  unfold Val.agg at *
  go_enter Tryz.func98, Tryz.ntmps98
  go_wp2_with fail
  rw [← HW.out]
  refine HO.out.mono ?_
  rintro e w' ⟨rfl, hl⟩
  have HL := Lib.hid (HB.out.trans (hl.mono HB.out.size))
  clear hl
  go_wp2
  go_ret
  exact ⟨by rw [HS.out]; rfl, HL.out⟩
end Go.Proofs.YtaamihdibpioaaaGreat

/- parse.Right of any expression. -/
namespace Go.Proofs.YtaamihdibpioaaaGreat
set_option linter.unusedVariables false
open Go.RowKit

/-- Is a part as its kind wants it, its kids apart? -/
def nodeP (k : Int) (s : ByteArray) (v : Val) (ns : List ByteArray) (L : Nat) : Bool :=
  decide (wantsP k ≠ -2) && (decide (wantsP k < 0) || decide ((L : Int) = wantsP k)) && namedP k s ns L && (if k = 1 then v.constB else v.noneB)
mutual
def Exp.rightB : Exp → Nat → Bool
  | .mk k s v _ ns _ xs, deep => !decide (12 < deep) && nodeP k s v ns xs.length && Exp.rightAll xs (deep + 1)
def Exp.rightAll : List Exp → Nat → Bool
  | [], _ => true
  | x :: xs, deep => x.rightB deep && Exp.rightAll xs deep
end
theorem Exp.rightB_eq (x : Exp) (deep : Nat) : x.rightB deep = (!decide (12 < deep) && nodeP x.k x.s x.v x.ns x.xs.length && Exp.rightAll x.xs (deep + 1)) := by
  cases x
  simp only [Exp.rightB, Exp.k, Exp.s, Exp.v, Exp.ns, Exp.xs]
theorem xrightAll_drop {xs : List Exp} {i deep : Nat} (h : i < xs.length) : Exp.rightAll (xs.drop i) deep = ((xs[i]'h).rightB deep && Exp.rightAll (xs.drop (i + 1)) deep) := by
  rw [List.drop_eq_getElem_cons h]
  simp only [Exp.rightAll]
def Exp.RightB (x : Exp) : Bool := decide (x.count 0 ≤ 200) && x.rightB 1

set_option maxHeartbeats 8000000 in
set_option maxRecDepth 100000 in
theorem xright_step (d : Nat) (ih : ∀ (x : Exp) (b o deep : Nat) (w : World), x.sz ≤ d → deep ≤ 13 → PExp w b o x → Calls Tryz.prog 121 #[.pointer (some ⟨b, o, none⟩), .int .i64 deep] w fun e w' => BoolBelow (x.rightB deep) w e w')
    (x : Exp) (b o deep : Nat) (w : World) (hd : x.sz ≤ d + 1) (hdeep : deep ≤ 13) (h : PExp w b o x) : Calls Tryz.prog 121 #[.pointer (some ⟨b, o, none⟩), .int .i64 deep] w fun e w' => BoolBelow (x.rightB deep) w e w' := by
  have hE := Exp.rightB_eq x deep
  have hkd := fun W => kids_any x.k W
  have hnm := named_any x b o w h
  have hcn := fun (W : World) (hb : Below w.heap.size w W) => const_any x.v W (h.in.val.below hb)
  have hno := fun (W : World) (hb : Below w.heap.size w W) => nothing_any x.v b (o + 2) W (h.val.below hb)
  obtain ⟨p8, q8, e8⟩ := h.in.nslice
  obtain ⟨p9, q9, e9, hx⟩ := xitems_at h.in
  obtain ⟨p6, q6, e6⟩ := h.in.val.nslice
  obtain ⟨p7, q7, e7⟩ := h.in.val.xslice
  have c0 := h.c0; have c1 := h.c1; have c2 := h.c2; have c3 := h.c3; have c4 := h.c4; have c5 := h.c5; have c6 := h.c6; have c7 := h.c7; have c8 := h.c8; have c9 := h.c9
  rw [e8] at c8
  rw [e9] at c9
  rw [e6] at c6
  rw [e7] at c7
  unfold Val.agg at hcn
  rw [e6, e7] at hcn
  have hlt := h.2.1
  have hxl := h.in.ok.2.2.2.1
  obtain ⟨R, hR⟩ : ∃ R, R = x.rightB deep := ⟨_, rfl⟩
  rw [← hR] at hE ⊢
  obtain ⟨L, hL⟩ : ∃ L, L = x.xs.length := ⟨_, rfl⟩
  rw [← hL] at hE hnm c9 hxl
  obtain ⟨k, hk⟩ : ∃ k, k = x.k := ⟨_, rfl⟩
  rw [← hk] at hE hkd hnm c0
  obtain ⟨NM, hNM⟩ : ∃ NM, NM = namedP k x.s x.ns L := ⟨_, rfl⟩
  obtain ⟨CB, hCB⟩ : ∃ CB, CB = x.v.constB := ⟨_, rfl⟩
  obtain ⟨NB, hNB⟩ : ∃ NB, NB = x.v.noneB := ⟨_, rfl⟩
  obtain ⟨n, hn⟩ : ∃ n, n = wantsP k := ⟨_, rfl⟩
  unfold nodeP at hE
  rw [← hNM] at hE hnm
  rw [← hCB] at hE hcn
  rw [← hNB] at hE hno
  rw [← hn] at hE hkd
  have hnr : -2 ≤ n ∧ n ≤ 3 := by rw [hn]; unfold wantsP; repeat' split
                                  all_goals omega
  obtain ⟨hn1, hn2⟩ := hnr
  have HE := Lib.hid hE; have HKD := Lib.hid hkd; have HNM := Lib.hid hnm; have HCN := Lib.hid hcn; have HNO := Lib.hid hno; have HX := Lib.hid hx; have HL := Lib.hid hL; have HIH := Lib.hid ih
  have HM := Lib.hid (show ∀ y, y ∈ x.xs → y.sz ≤ d from fun y hy => by have := Exp.size_mem hy; omega)
  have HC0 := Lib.hid c0; have HC9 := Lib.hid c9
  have hdw : IntKind.i64.wrap ((deep : Int) + 1) = (deep : Int) + 1 := IntWalk.i64_in _ (by omega)
  clear hE hkd hnm hcn hno hx hL hR hk hNM hCB hNB hn ih hd h e6 e7 e8 e9 c1 c8
  by_cases h12 : 12 < deep
  · have HR : Hid (R = false) := Lib.hid (by rw [HE.out, decide_eq_true h12]; rfl)
    have i1 : decide ((12 : Int) < (deep : Int)) = true := by simp; omega
    clear h12
    go_enter Tryz.func121, Tryz.ntmps121
    go_wp2_with fail
    refine (HKD.out _).mono ?_
    rintro e w1 ⟨rfl, rfl⟩
    go_wp2
    go_ret
    exact ⟨by rw [HR.out]; rfl, Below.refl _ _⟩
  have i1 : decide ((12 : Int) < (deep : Int)) = false := by simp; omega
  rw [decide_eq_false h12] at HE
  by_cases hm2 : n = -2
  · have HR : Hid (R = false) := Lib.hid (by rw [HE.out, hm2]; rfl)
    subst hm2
    clear h12
    go_enter Tryz.func121, Tryz.ntmps121
    go_wp2_with fail
    refine (HKD.out _).mono ?_
    rintro e w1 ⟨rfl, rfl⟩
    go_wp2
    go_ret
    exact ⟨by rw [HR.out]; rfl, Below.refl _ _⟩
  have i2 : (n == -2) = false := by simpa using hm2
  rw [decide_eq_true (show n ≠ -2 from hm2)] at HE
  by_cases hnl : 0 ≤ n ∧ (L : Int) ≠ n
  · have HR : Hid (R = false) := Lib.hid (by rw [HE.out, decide_eq_false (show ¬ n < 0 by omega), decide_eq_false hnl.2]; simp)
    have i3 : decide (0 ≤ n) = true := by simpa using hnl.1
    have i4 : ((L : Int) != n) = true := by simpa using hnl.2
    clear h12 hm2 hnl
    go_enter Tryz.func121, Tryz.ntmps121
    go_wp2_with fail
    refine (HKD.out _).mono ?_
    rintro e w1 ⟨rfl, rfl⟩
    go_wp2
    go_ret
    exact ⟨by rw [HR.out]; rfl, Below.refl _ _⟩
  have HE2 : Hid (R = (NM && (if k = 1 then CB else NB) && Exp.rightAll x.xs (deep + 1))) := Lib.hid (by
    rw [HE.out]
    have : (decide (n < 0) || decide ((L : Int) = n)) = true := by
      by_cases h0 : n < 0
      · simp [h0]
      · have : (L : Int) = n := by omega
        simp [this]
    rw [this]
    simp)
  have hsplit : ((decide (0 ≤ n) = true ∧ ((L : Int) != n) = false) ∨ decide (0 ≤ n) = false) := by
    by_cases h0 : 0 ≤ n
    · exact .inl ⟨by simpa using h0, by have : (L : Int) = n := by omega
                                        simpa using this⟩
    · exact .inr (by simpa using h0)
  have hd12 : deep ≤ 12 := by omega
  clear h12 hm2 hnl HE
  go_enter Tryz.func121, Tryz.ntmps121
  go_wp2_with fail
  refine (HKD.out _).mono ?_
  rintro e w1 ⟨rfl, rfl⟩
  go_upto_region 2 with fail
  go_cut [35] (fun sv wx => sv = .bool (!NM) ∧ Below w.heap.size w wx)
  case first =>
    rcases hsplit with ⟨i3, i4⟩ | i3
    all_goals
      go_wp2_with fail
      refine HNM.out.mono ?_
      rintro e w2 ⟨rfl, hb⟩
      have HB := Lib.hid hb
      clear hb
      go_wp2
      go_meet
      exact ⟨rfl, HB.out⟩
  case rest =>
  obtain ⟨rfl, hb2⟩ := hcut
  clear hsplit
  cases NM with
  | false =>
    have HR : Hid (R = false) := Lib.hid (by rw [HE2.out]; rfl)
    go_wp2
    go_ret
    exact ⟨by rw [HR.out]; rfl, hb2⟩
  | true =>
    have HB2 := Lib.hid hb2
    have d0 := (hb2.cell (p := ⟨b, o, none⟩) hlt).trans c0
    have d2 := (hb2.cell (p := ⟨b, o + 2, none⟩) hlt).trans c2; have d3 := (hb2.cell (p := ⟨b, o + 3, none⟩) hlt).trans c3; have d4 := (hb2.cell (p := ⟨b, o + 4, none⟩) hlt).trans c4
    have d5 := (hb2.cell (p := ⟨b, o + 5, none⟩) hlt).trans c5; have d6 := (hb2.cell (p := ⟨b, o + 6, none⟩) hlt).trans c6; have d7 := (hb2.cell (p := ⟨b, o + 7, none⟩) hlt).trans c7
    have HC := Lib.hid (HCN.out _ hb2)
    have HN := Lib.hid (HNO.out _ hb2)
    clear hb2 c0 c2 c3 c4 c5 c6 c7 c9
    simp only [Bool.not_true]
    obtain ⟨TB, hTB⟩ : ∃ TB, TB = (if k = 1 then CB else NB) := ⟨_, rfl⟩
    rw [← hTB] at HE2
    have HTB := Lib.hid hTB
    clear hTB
    go_upto_region 4 with fail
    go_cut [62] (fun sv wx => sv = .bool (!TB) ∧ Below w.heap.size w wx)
    case first =>
      by_cases hk1 : k = 1
      · subst hk1
        have ht : TB = CB := by rw [HTB.out, if_pos rfl]
        subst ht
        go_wp2_with fail
        refine HC.out.mono ?_
        rintro e w3 ⟨rfl, hb⟩
        have HB3 := Lib.hid (HB2.out.trans (hb.mono HB2.out.size))
        have d0' := (HB3.out.cell (p := ⟨b, o, none⟩) hlt).trans HC0.out
        clear hb
        cases TB with
        | false =>
          go_wp2
          go_meet
          exact ⟨rfl, HB3.out⟩
        | true =>
          go_wp2
          go_meet
          exact ⟨rfl, HB3.out⟩
      · have k1 : (k == 1) = false := by simpa using hk1
        have k2 : (k != 1) = true := by simpa using hk1
        have ht : TB = NB := by rw [HTB.out, if_neg hk1]
        subst ht
        clear hk1
        go_wp2_with fail
        refine HN.out.mono ?_
        rintro e w3 ⟨rfl, rfl⟩
        go_wp2
        go_meet
        exact ⟨rfl, HB2.out⟩
    case rest =>
    obtain ⟨rfl, hb4⟩ := hcut
    clear HTB d0 d2 d3 d4 d5 d6 d7 HC HN
    cases TB with
    | false =>
      have HR : Hid (R = false) := Lib.hid (by rw [HE2.out]; rfl)
      go_wp2
      go_ret
      exact ⟨by rw [HR.out]; rfl, hb4⟩
    | true =>
      have HE3 : Hid (R = Exp.rightAll x.xs (deep + 1)) := Lib.hid (by rw [HE2.out]; simp)
      have HB4 := Lib.hid hb4
      have c9 := (hb4.cell (p := ⟨b, o + 9, none⟩) hlt).trans HC9.out
      clear hb4
      simp only [Bool.not_true]
      go_wp2_with fail
      clear c9
      go_loopw [68] (fun iv wr => ∃ i : Nat, iv = .int .i64 (i : Int) ∧ i ≤ L ∧ Hid (Exp.rightAll (x.xs.drop i) (deep + 1) = R) ∧ Hid (Below w.heap.size w wr)) (fun iv _ => L - (intOf iv).toNat)
      case atStart => exact ⟨0, rfl, by omega, Lib.hid (by rw [HE3.out]; rfl), HB4⟩
      case round =>
        obtain ⟨i, rfl, hi, HRI, HB⟩ := hrel
        have c9 := (HB.out.cell (p := ⟨b, o + 9, none⟩) hlt).trans HC9.out
        by_cases hlt2 : i < L
        · have hil : i < x.xs.length := by rw [← HL.out]; exact hlt2
          obtain ⟨xb, xo, rfl, hpx, hlc⟩ := HX.out i hil
          rw [← HL.out] at hlc
          have hdr := xrightAll_drop (deep := deep + 1) hil
          rw [HRI.out] at hdr
          obtain ⟨y, hy⟩ : ∃ y, y = x.xs[i]'hil := ⟨_, rfl⟩
          have hys := HM.out (x.xs[i]'hil) (by simp)
          rw [← hy] at hdr hpx hys
          have hc := HIH.out y xb (xo + i * 10) (deep + 1) wr hys (by omega) (hpx.below HB.out)
          have hbx := hpx.2.1
          obtain ⟨YB, hYB⟩ : ∃ YB, YB = y.rightB (deep + 1) := ⟨_, rfl⟩
          rw [← hYB] at hc hdr
          have hk0 : (0 : Int) ≤ (i : Int) := by omega
          have hk1 : (i : Int) < (L : Int) := by omega
          rw [show ((deep + 1 : Nat) : Int) = (deep : Int) + 1 from by omega] at hc
          have HC := Lib.hid hc; have HDR := Lib.hid hdr
          clear hc hdr hy hys hpx hYB hil
          go_wp2_with fail
          refine HC.out.mono ?_
          rintro e w6 ⟨rfl, hb6⟩
          have HB6 := Lib.hid (HB.out.trans (hb6.mono HB.out.size))
          clear hb6 c9
          cases YB with
          | false =>
            go_wp2
            go_ret
            exact ⟨by rw [HDR.out]; rfl, HB6.out⟩
          | true =>
            go_wp2
            go_roundw
            case rel => exact ⟨i + 1, by go_num, by omega, Lib.hid (by rw [HDR.out]; rfl), HB6⟩
            case measure => simp [intOf]; omega
        · have HT : Hid (R = true) := Lib.hid (by
            rw [← HRI.out, List.drop_eq_nil_of_le (by rw [← HL.out]; omega)]
            rfl)
          go_wp2
          go_ret
          exact ⟨by rw [HT.out]; rfl, HB.out⟩
theorem xright_any : ∀ (d : Nat) (x : Exp) (b o deep : Nat) (w : World), x.sz ≤ d → deep ≤ 13 → PExp w b o x → Calls Tryz.prog 121 #[.pointer (some ⟨b, o, none⟩), .int .i64 deep] w fun e w' => BoolBelow (x.rightB deep) w e w'
  | 0, x, b, o, deep, w, hd, _, _ => by rw [Exp.sz_eq] at hd; omega
  | d + 1, x, b, o, deep, w, hd, hdeep, hp => xright_step d (fun x b o deep w h1 h2 h3 => xright_any d x b o deep w h1 h2 h3) x b o deep w hd hdeep hp
set_option maxRecDepth 100000 in
theorem xparts_any (x : Exp) (w : World) (h : x.In w) : Calls Tryz.prog 120 #[x.agg] w fun e w' => IntBelow ((x.count 0 : Nat) : Int) w e w' := by
  obtain ⟨W, hW⟩ : ∃ W, W = w.alloc (.cells x.cells.toArray 169) := ⟨_, rfl⟩
  have hBW : Below w.heap.size w W := by rw [hW]; exact (Below.refl _ w).alloc (Nat.le_refl _) _
  have hp : PExp W w.heap.size 0 x := by rw [hW]; exact PExp.new w x 169 h
  have hc := xcounted_any x.sz x w.heap.size 0 0 W (Nat.le_refl _) (by omega) hp
  obtain ⟨p8, q8, e8⟩ := h.nslice
  obtain ⟨p9, q9, e9⟩ := h.xslice
  obtain ⟨p6, q6, e6⟩ := h.val.nslice
  obtain ⟨p7, q7, e7⟩ := h.val.xslice
  unfold Exp.cells at hW
  unfold Exp.agg
  rw [e6, e7, e8, e9] at hW ⊢
  have HW := Lib.hid hW; have HBW := Lib.hid hBW; have HC := Lib.hid hc
  clear hW hBW hp hc e6 e7 e8 e9 h
  go_enter Tryz.func120, Tryz.ntmps120
  go_wp2_with fail
  rw [← HW.out]
  refine HC.out.mono ?_
  rintro e w1 ⟨rfl, rfl⟩
  go_wp2
  go_ret
  exact ⟨rfl, HBW.out⟩
set_option maxHeartbeats 1000000 in
set_option maxRecDepth 100000 in
theorem xrightf_any (x : Exp) (w : World) (h : x.In w) : Calls Tryz.prog 99 #[x.agg] w fun e w' => BoolBelow x.RightB w e w' := by
  obtain ⟨W, hW⟩ : ∃ W, W = w.alloc (.cells x.cells.toArray 169) := ⟨_, rfl⟩
  have hBW : Below w.heap.size w W := by rw [hW]; exact (Below.refl _ w).alloc (Nat.le_refl _) _
  have hp : PExp W w.heap.size 0 x := by rw [hW]; exact PExp.new w x 169 h
  have hc := xparts_any x W hp.in
  have hr := fun (W' : World) (hb : Below W.heap.size W W') => xright_any x.sz x w.heap.size 0 1 W' (Nat.le_refl _) (by omega) (hp.below hb)
  obtain ⟨p8, q8, e8⟩ := h.nslice
  obtain ⟨p9, q9, e9⟩ := h.xslice
  obtain ⟨p6, q6, e6⟩ := h.val.nslice
  obtain ⟨p7, q7, e7⟩ := h.val.xslice
  have c0 := hp.c0; have c1 := hp.c1; have c2 := hp.c2; have c3 := hp.c3; have c4 := hp.c4; have c5 := hp.c5; have c6 := hp.c6; have c7 := hp.c7; have c8 := hp.c8; have c9 := hp.c9
  rw [e6] at c6
  rw [e7] at c7
  rw [e8] at c8
  rw [e9] at c9
  simp only [Nat.zero_add] at c0 c1 c2 c3 c4 c5 c6 c7 c8 c9
  unfold Exp.cells at hW
  unfold Exp.agg at hc ⊢
  rw [e6, e7, e8, e9] at hW hc ⊢
  have hE : x.RightB = (decide (x.count 0 ≤ 200) && x.rightB 1) := rfl
  obtain ⟨R, hR⟩ : ∃ R, R = x.RightB := ⟨_, rfl⟩
  obtain ⟨C, hC⟩ : ∃ C, C = x.count 0 := ⟨_, rfl⟩
  obtain ⟨Q, hQ⟩ : ∃ Q, Q = x.rightB 1 := ⟨_, rfl⟩
  rw [← hR, ← hC, ← hQ] at hE
  rw [← hR]
  rw [← hC] at hc
  rw [← hQ] at hr
  have HW := Lib.hid hW; have HBW := Lib.hid hBW; have HC := Lib.hid hc; have HR := Lib.hid hr; have HE := Lib.hid hE
  clear hW hBW hp hc hr hE hR hC hQ e6 e7 e8 e9 h
  by_cases h200 : C ≤ 200
  · have i1 : decide ((C : Int) ≤ 200) = true := by simp; omega
    rw [decide_eq_true h200] at HE
    clear h200
    go_enter Tryz.func99, Tryz.ntmps99
    go_wp2_with fail
    rw [← HW.out]
    go_wp2_with fail
    refine HC.out.mono ?_
    rintro e w1 ⟨rfl, hb⟩
    have HR1 := Lib.hid (HR.out w1 hb)
    have HB1 := Lib.hid (HBW.out.trans (hb.mono HBW.out.size))
    clear hb
    go_wp2_with fail
    refine HR1.out.mono ?_
    rintro e w2 ⟨rfl, hb2⟩
    have HB2 := Lib.hid (HB1.out.trans (hb2.mono HB1.out.size))
    clear hb2
    go_wp2
    go_ret
    exact ⟨by rw [HE.out]; simp, HB2.out⟩
  · have i1 : decide ((C : Int) ≤ 200) = false := by simp; omega
    rw [decide_eq_false h200] at HE
    clear h200
    go_enter Tryz.func99, Tryz.ntmps99
    go_wp2_with fail
    rw [← HW.out]
    go_wp2_with fail
    refine HC.out.mono ?_
    rintro e w1 ⟨rfl, hb⟩
    have HB1 := Lib.hid (HBW.out.trans (hb.mono HBW.out.size))
    clear hb
    go_wp2
    go_ret
    exact ⟨by rw [HE.out]; simp, HB1.out⟩
end Go.Proofs.YtaamihdibpioaaaGreat
