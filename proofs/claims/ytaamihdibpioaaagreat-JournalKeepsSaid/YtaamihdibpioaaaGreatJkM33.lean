/- value.Same of what is no value: is it none at all? -/
import Derived.Test.YtaamihdibpioaaaGreatJkM23
import Derived.Test.YtaamihdibpioaaaGreatJkM26
import Derived.Test.YtaamihdibpioaaaGreatJkM32
import Derived.Deep.RegionHeld3
namespace Go.Proofs.YtaamihdibpioaaaGreat
set_option linter.unusedVariables false
open Go.RowKit

/-- cmp.Or of three numbers. -/
def or3 (x y z : Int) : Int := if x ≠ 0 then x else if y ≠ 0 then y else z
theorem ret_i {k : IntKind} {a b : Int} (h : a = b) : Ending.returned (.int k a) = .returned (.int k b) := by rw [h]
set_option maxHeartbeats 1000000 in
theorem or3_any (b : Nat) (x y z : Int) (w : World) (h : Blk w b 3 #[.int .i64 x, .int .i64 y, .int .i64 z]) :
    Calls Tryz.prog 169 #[.slice (some ⟨b, 0, none⟩) 3 3] w fun e w' => e = .returned (.int .i64 (or3 x y z)) ∧ w = w' := by
  have h0 := h.cell 0; have h1 := h.cell 1; have h2 := h.cell 2
  simp at h0 h1 h2
  clear h
  obtain ⟨r, hr⟩ : ∃ r, r = or3 x y z := ⟨_, rfl⟩
  rw [← hr]
  have HR := Lib.hid hr
  clear hr
  go_enter Tryz.func169, Tryz.ntmps169
  go_wp2
  go_loop [8] (fun iv => ∃ k : Nat, k ≤ 3 ∧ iv = .int .i64 k ∧ Hid ((1 ≤ k → x = 0) ∧ (2 ≤ k → y = 0) ∧ (3 ≤ k → z = 0))) (fun iv => 3 - (intOf iv).toNat)
  case atStart => exact ⟨0, by omega, rfl, Lib.hid ⟨fun h => absurd h (by omega), fun h => absurd h (by omega), fun h => absurd h (by omega)⟩⟩
  case round =>
    obtain ⟨k, hk, rfl, HP⟩ := hrel
    rcases (by omega : k = 0 ∨ k = 1 ∨ k = 2 ∨ k = 3) with rfl | rfl | rfl | rfl
    · by_cases hz : x = 0
      · have HZ := Lib.hid hz
        have i2 : (x != 0) = false := by simpa using hz
        clear hz
        go_wp2
        go_round
        case rel => exact ⟨1, by omega, rfl, Lib.hid ⟨fun _ => HZ.out, fun h => absurd h (by omega), fun h => absurd h (by omega)⟩⟩
        case measure => simp [intOf]
      · have HZ := Lib.hid hz
        have i2 : (x != 0) = true := by simpa using hz
        clear hz
        go_wp2
        go_ret
        exact ⟨ret_i (by rw [HR.out]; unfold or3; rw [if_pos HZ.out]), rfl⟩
    · have HX := Lib.hid (HP.out.1 (by omega))
      by_cases hz : y = 0
      · have HZ := Lib.hid hz
        have i2 : (y != 0) = false := by simpa using hz
        clear hz
        go_wp2
        go_round
        case rel => exact ⟨2, by omega, rfl, Lib.hid ⟨fun _ => HX.out, fun _ => HZ.out, fun h => absurd h (by omega)⟩⟩
        case measure => simp [intOf]
      · have HZ := Lib.hid hz
        have i2 : (y != 0) = true := by simpa using hz
        clear hz
        go_wp2
        go_ret
        exact ⟨ret_i (by rw [HR.out]; unfold or3; rw [if_neg (by simp [HX.out]), if_pos HZ.out]), rfl⟩
    · have HX := Lib.hid (HP.out.1 (by omega))
      have HY := Lib.hid (HP.out.2.1 (by omega))
      by_cases hz : z = 0
      · have HZ := Lib.hid hz
        have i2 : (z != 0) = false := by simpa using hz
        clear hz
        go_wp2
        go_round
        case rel => exact ⟨3, by omega, rfl, Lib.hid ⟨fun _ => HX.out, fun _ => HY.out, fun _ => HZ.out⟩⟩
        case measure => simp [intOf]
      · have HZ := Lib.hid hz
        have i2 : (z != 0) = true := by simpa using hz
        clear hz
        go_wp2
        go_ret
        exact ⟨ret_i (by rw [HR.out]; unfold or3; rw [if_neg (by simp [HX.out]), if_neg (by simp [HY.out])]), rfl⟩
    · go_wp2
      go_ret
      exact ⟨ret_i (by rw [HR.out]; unfold or3; rw [if_neg (by simp [HP.out.1 (by omega)]), if_neg (by simp [HP.out.2.1 (by omega)]), HP.out.2.2 (by omega)]), rfl⟩

/-- What two that are no values differ in, but for their items. -/
def Val.row0 (v u : Val) : Int := or3 (sgnI v.n u.n) (Lib.compareBytes v.s.data.toList u.s.data.toList) (ncmp v.ns u.ns)
theorem six_all {W : World} {b o b' o' : Nat} {x0 x1 x2 y0 y1 y2 : Value} (h : W.cell? ⟨b, o + 1, none⟩ = some x0 ∧ W.cell? ⟨b, o + 3, none⟩ = some x1 ∧ W.cell? ⟨b, o + 4, none⟩ = some x2 ∧ W.cell? ⟨b', o' + 1, none⟩ = some y0 ∧ W.cell? ⟨b', o' + 3, none⟩ = some y1 ∧ W.cell? ⟨b', o' + 4, none⟩ = some y2) (h1 : b < W.heap.size) (h2 : b' < W.heap.size) (x : Obj) :
    (W.alloc x).cell? ⟨b, o + 1, none⟩ = some x0 ∧ (W.alloc x).cell? ⟨b, o + 3, none⟩ = some x1 ∧ (W.alloc x).cell? ⟨b, o + 4, none⟩ = some x2 ∧ (W.alloc x).cell? ⟨b', o' + 1, none⟩ = some y0 ∧ (W.alloc x).cell? ⟨b', o' + 3, none⟩ = some y1 ∧ (W.alloc x).cell? ⟨b', o' + 4, none⟩ = some y2 := by
  obtain ⟨g0, g1, g2, g3, g4, g5⟩ := h
  refine ⟨?_, ?_, ?_, ?_, ?_, ?_⟩
  · rw [World.cell?_alloc_lt W x _ h1]; exact g0
  · rw [World.cell?_alloc_lt W x _ h1]; exact g1
  · rw [World.cell?_alloc_lt W x _ h1]; exact g2
  · rw [World.cell?_alloc_lt W x _ h2]; exact g3
  · rw [World.cell?_alloc_lt W x _ h2]; exact g4
  · rw [World.cell?_alloc_lt W x _ h2]; exact g5
set_option maxHeartbeats 4000000 in
set_option maxRecDepth 100000 in
theorem row0_any (v u : Val) (b o b' o' : Nat) (w : World) (hv : PVal w b o v) (hu : PVal w b' o' u) (hk : v.k = 0) :
    Calls Tryz.prog 136 #[.pointer (some ⟨b, o, none⟩), .pointer (some ⟨b', o', none⟩)] w fun e w' => IntBelow (v.row0 u) w e w' := by
  have c0 := hv.c0; have c1 := hv.c1; have c3 := hv.c3; have c4 := hv.c4
  have d1 := hu.c1; have d3 := hu.c3; have d4 := hu.c4
  rw [hk] at c0
  obtain ⟨p, q, e4⟩ := hv.in.nslice
  obtain ⟨p', q', f4⟩ := hu.in.nslice
  have hna := fun n => NamesAt.of (hv.in.drewN n)
  have hnb := fun n => NamesAt.of (hu.in.drewN n)
  rw [e4] at c4
  rw [f4] at d4
  simp only [e4] at hna
  simp only [f4] at hnb
  have hl1 := hv.in.ok.2.2.2.2.1
  have hl2 := hu.in.ok.2.2.2.2.1
  have hbl := hv.2.1
  have hbl' := hu.2.1
  obtain ⟨a0, ha0⟩ : ∃ a0, a0 = v.n := ⟨_, rfl⟩
  obtain ⟨a1, ha1⟩ : ∃ a1, a1 = u.n := ⟨_, rfl⟩
  obtain ⟨s0, hs0⟩ : ∃ s0, s0 = v.s := ⟨_, rfl⟩
  obtain ⟨s1, hs1⟩ : ∃ s1, s1 = u.s := ⟨_, rfl⟩
  obtain ⟨m0, hm0⟩ : ∃ m0, m0 = v.ns := ⟨_, rfl⟩
  obtain ⟨m1, hm1⟩ : ∃ m1, m1 = u.ns := ⟨_, rfl⟩
  obtain ⟨r, hr⟩ : ∃ r, r = v.row0 u := ⟨_, rfl⟩
  have hr2 : r = or3 (sgnI a0 a1) (Lib.compareBytes s0.data.toList s1.data.toList) (ncmp m0 m1) := by rw [hr, ha0, ha1, hs0, hs1, hm0, hm1]; rfl
  rw [← hr]
  rw [← ha0] at c1
  rw [← ha1] at d1
  rw [← hs0] at c3
  rw [← hs1] at d3
  rw [← hm0] at c4 hl1
  rw [← hm1] at d4 hl2
  simp only [← hm0] at hna
  simp only [← hm1] at hnb
  have HNA := Lib.hid hna; have HNB := Lib.hid hnb; have HL1 := Lib.hid hl1; have HL2 := Lib.hid hl2; have HR := Lib.hid hr2
  clear hv hu hk e4 f4 hna hnb hl1 hl2 ha0 ha1 hs0 hs1 hm0 hm1 hr hr2
  have HS := Lib.hid (show w.drew.cell? ⟨b, o + 1, none⟩ = some (.int .i64 a0) ∧ w.drew.cell? ⟨b, o + 3, none⟩ = some (.string s0) ∧ w.drew.cell? ⟨b, o + 4, none⟩ = some (.slice p m0.length q) ∧ w.drew.cell? ⟨b', o' + 1, none⟩ = some (.int .i64 a1) ∧ w.drew.cell? ⟨b', o' + 3, none⟩ = some (.string s1) ∧ w.drew.cell? ⟨b', o' + 4, none⟩ = some (.slice p' m1.length q') from ⟨c1, c3, c4, d1, d3, d4⟩)
  have HSN := Lib.hid (fun n => (show (w.drewN n).cell? ⟨b, o + 1, none⟩ = some (.int .i64 a0) ∧ (w.drewN n).cell? ⟨b, o + 3, none⟩ = some (.string s0) ∧ (w.drewN n).cell? ⟨b, o + 4, none⟩ = some (.slice p m0.length q) ∧ (w.drewN n).cell? ⟨b', o' + 1, none⟩ = some (.int .i64 a1) ∧ (w.drewN n).cell? ⟨b', o' + 3, none⟩ = some (.string s1) ∧ (w.drewN n).cell? ⟨b', o' + 4, none⟩ = some (.slice p' m1.length q') from ⟨c1, c3, c4, d1, d3, d4⟩))
  have HA := Lib.hid (fun (W : World) (x : Obj) (h : W.cell? ⟨b, o + 1, none⟩ = some (.int .i64 a0) ∧ W.cell? ⟨b, o + 3, none⟩ = some (.string s0) ∧ W.cell? ⟨b, o + 4, none⟩ = some (.slice p m0.length q) ∧ W.cell? ⟨b', o' + 1, none⟩ = some (.int .i64 a1) ∧ W.cell? ⟨b', o' + 3, none⟩ = some (.string s1) ∧ W.cell? ⟨b', o' + 4, none⟩ = some (.slice p' m1.length q')) (h1 : b < W.heap.size) (h2 : b' < W.heap.size) => six_all h h1 h2 x)
  have HAN := Lib.hid (fun (n : Nat) (x : Obj) => HA.out (w.drewN n) x (HSN.out n) hbl hbl')
  go_enter Tryz.func136, Tryz.ntmps136
  go_wp2_with fail
  go_region_held3 (fun W => W.cell? ⟨b, o + 1, none⟩ = some (.int .i64 a0) ∧ W.cell? ⟨b, o + 3, none⟩ = some (.string s0) ∧ W.cell? ⟨b, o + 4, none⟩ = some (.slice p m0.length q) ∧ W.cell? ⟨b', o' + 1, none⟩ = some (.int .i64 a1) ∧ W.cell? ⟨b', o' + 3, none⟩ = some (.string s1) ∧ W.cell? ⟨b', o' + 4, none⟩ = some (.slice p' m1.length q'))
    (first | with_reducible exact HS.out | with_reducible exact HSN.out _ | with_reducible assumption | with_reducible exact HA.out _ _ HS.out hbl hbl' | with_reducible exact HAN.out _ _ | fail)
    (first
      | (go_at_call 165; refine (cmp_int64 _ _ _).mono ?_; rintro e w' ⟨rfl, rfl⟩)
      | (go_at_call 167; refine (strcmp_any _ _ _).mono ?_; rintro e w' ⟨rfl, rfl⟩)
      | (go_at_call 168; refine (ncmp_any _ _ m0 m1 _ (HNA.out _) (HNB.out _) HL1.out HL2.out).mono ?_; rintro e w' ⟨rfl, rfl⟩)
      | (go_at_call 169; refine (or3_any _ _ _ _ _ (Blk.new (w.drewN _) _ _)).mono ?_; rintro e w' ⟨rfl, rfl⟩)
      | fail)
  all_goals
    go_wp2
    go_ret
    exact ⟨ret_i HR.out.symm, ((Below.refl _ _).alloc (Nat.le_refl _) _).drew⟩
/-- Lists' items beside none at all. -/
def cfun0 (L : Nat) : Int := if L = 0 then 0 else 1
set_option maxHeartbeats 1000000 in
set_option maxRecDepth 100000 in
theorem cfun0_any (v : Val) (w : World) (hv : v.In w) :
    Calls Tryz.prog 138 #[v.xa.val v.xs.length, .slice none 0 0, .func (Fn.func 119) #[] #[]] w fun e w' => IntBelow (cfun0 v.xs.length) w e w' := by
  have hsf := run_store_flt
  have hl1 := hv.ok.2.2.2.2.2.1
  obtain ⟨p, c, e1, A4⟩ := items_at hv
  rw [e1]
  obtain ⟨L, hL⟩ : ∃ L, L = v.xs.length := ⟨_, rfl⟩
  rw [← hL] at hl1 ⊢
  have HL := Lib.hid hL; have HA := Lib.hid A4
  clear e1 A4 hL hv
  by_cases h0 : L = 0
  · subst h0
    have HE : Hid (cfun0 0 = 0) := Lib.hid rfl
    clear HL HA
    go_enter Tryz.func138, Tryz.ntmps138
    go_wp2_with fail
    go_loopw [13] (fun iv wr => iv = .int .i64 0 ∧ Hid (Below w.heap.size w wr)) (fun iv _ => 0)
    case atStart => exact ⟨rfl, Lib.hid (Below.refl _ _)⟩
    case round =>
      obtain ⟨rfl, HBL⟩ := hrel
      go_wp2
      go_ret
      exact ⟨by rw [HE.out]; rfl, HBL.out⟩
  · have HE : Hid (cfun0 L = 1) := Lib.hid (by unfold cfun0; rw [if_neg h0])
    have hil : 0 < v.xs.length := by rw [← HL.out]; omega
    obtain ⟨b, o, rfl, hp, hLc⟩ := HA.out 0 hil
    rw [← HL.out] at hLc
    obtain ⟨x, hx⟩ : ∃ x, x = v.xs[0]'hil := ⟨_, rfl⟩
    rw [← hx] at hp
    have hL0 : (0 : Int) < (L : Int) := by omega
    go_enter Tryz.func138, Tryz.ntmps138
    go_wp2_with fail
    go_loopw [13] (fun iv wr => iv = .int .i64 0 ∧ Hid (Below w.heap.size w wr)) (fun iv _ => 0)
    case atStart => exact ⟨rfl, Lib.hid (Below.refl _ _)⟩
    case round =>
      obtain ⟨rfl, HBL⟩ := hrel
      have hpr := hp.below HBL.out
      have d0 := hpr.c0; have d1 := hpr.c1; have d2 := hpr.c2; have d3 := hpr.c3; have d4 := hpr.c4; have d5 := hpr.c5
      obtain ⟨r4, t4, g4⟩ := hpr.in.nslice
      obtain ⟨r5, t5, g5⟩ := hpr.in.xslice
      rw [g4] at d4
      rw [g5] at d5
      simp only [Nat.zero_mul, Nat.add_zero] at d0 d1 d2 d3 d4 d5
      have HF := Lib.hid (HBL.out.trans (((Below.refl wr.heap.size wr).alloc (Nat.le_refl _) (.cells #[.int .i64 x.k, .int .i64 x.n, .float .f64 x.f, .string x.s, .slice r4 x.ns.length t4, .slice r5 x.xs.length t5] 37)).mono HBL.out.size))
      clear hpr hp hx g4 g5 HL HA hil h0
      go_wp2
      go_ret
      exact ⟨by rw [HE.out]; rfl, HF.out⟩
def Val.ord0 (v u : Val) : Int := if v.row0 u ≠ 0 then v.row0 u else cfun0 v.xs.length
set_option maxHeartbeats 4000000 in
set_option maxRecDepth 100000 in
theorem ord0_any (v : Val) (w : World) (hv : v.In w) (hk : v.k = 0) : Calls Tryz.prog 119 #[v.agg, Val.zero.agg] w fun e w' => IntBelow (v.ord0 Val.zero) w e w' := by
  obtain ⟨W, hW⟩ : ∃ W, W = (w.alloc (.cells #[.int .i64 v.k, .int .i64 v.n, .float .f64 v.f, .string v.s, v.na.val v.ns.length, v.xa.val v.xs.length] 37)).alloc (.cells #[.int .i64 0, .int .i64 0, .float .f64 0, .string ByteArray.empty, .slice none 0 0, .slice none 0 0] 37) := ⟨_, rfl⟩
  have hbW : Below w.heap.size w W := by rw [hW]; exact ((Below.refl _ _).alloc (Nat.le_refl _) _).alloc (by simp) _
  have hz : ∀ W : World, Val.zero.In W := fun W => by
    rw [Val.in_iff]
    exact ⟨⟨by unfold i64r; decide, by unfold i64r; decide, by decide, by unfold strok; decide, by decide, by decide, fun s hs => by cases hs⟩, rfl, rfl, fun x hx => by cases hx⟩
  have hpv : PVal W w.heap.size 0 v := by
    rw [hW]
    exact (PVal.new w v 37 hv).below ((Below.refl _ _).alloc (Nat.le_refl _) _)
  have hpu : PVal W (w.heap.size + 1) 0 Val.zero := by
    rw [hW]
    have := PVal.new (w.alloc (.cells #[.int .i64 v.k, .int .i64 v.n, .float .f64 v.f, .string v.s, v.na.val v.ns.length, v.xa.val v.xs.length] 37)) Val.zero 37 (hz _)
    rw [show (w.alloc (.cells #[.int .i64 v.k, .int .i64 v.n, .float .f64 v.f, .string v.s, v.na.val v.ns.length, v.xa.val v.xs.length] 37)).heap.size = w.heap.size + 1 from by simp] at this
    exact this
  have hrow := row0_any v Val.zero w.heap.size 0 (w.heap.size + 1) 0 W hpv hpu hk
  have hcf := fun (W' : World) (hb : Below W.heap.size W W') => cfun0_any v W' (hpv.in.below hb)
  have hoe : v.ord0 Val.zero = if v.row0 Val.zero ≠ 0 then v.row0 Val.zero else cfun0 v.xs.length := rfl
  have c0 := hpv.c0; have c5 := hpv.c5; have d0 := hpu.c0; have d5 := hpu.c5
  rw [hk] at c0 hW
  simp only [Nat.zero_add] at c5 d5
  have hag : v.agg = .agg #[.int .i64 0, .int .i64 v.n, .float .f64 v.f, .string v.s, v.na.val v.ns.length, v.xa.val v.xs.length] := by unfold Val.agg; rw [hk]
  rw [hag]
  obtain ⟨p4, q4, e4⟩ := hv.nslice
  obtain ⟨p5, q5, e5⟩ := hv.xslice
  rw [e4, e5] at hW ⊢
  rw [e5] at c5
  simp only [e5] at hcf
  have d0' : W.cell? ⟨w.heap.size + 1, 0, none⟩ = some (.int .i64 0) := d0
  have d5' : W.cell? ⟨w.heap.size + 1, 5, none⟩ = some (.slice none 0 0) := d5
  have hzag : Val.zero.agg = .agg #[.int .i64 0, .int .i64 0, .float .f64 0, .string ByteArray.empty, .slice none 0 0, .slice none 0 0] := rfl
  rw [hzag]
  obtain ⟨r, hr⟩ : ∃ r, r = v.row0 Val.zero := ⟨_, rfl⟩
  obtain ⟨q, hq⟩ : ∃ q, q = cfun0 v.xs.length := ⟨_, rfl⟩
  obtain ⟨O, hO⟩ : ∃ O, O = v.ord0 Val.zero := ⟨_, rfl⟩
  have hcf' := fun (W' : World) (hb : Below W.heap.size W W') => hcf W' hb
  rw [← hO, ← hr, ← hq] at hoe
  rw [← hO]
  rw [← hr] at hrow
  have hcm := fun (W : World) => cmp_int 0 0 W
  have hlf := fun (W : World) => leaf_any 0 W
  have hcf3 : ∀ W' : World, Below W.heap.size W W' → Calls Tryz.prog 138 #[.slice p5 v.xs.length q5, .slice none 0 0, .func (Fn.func 119) #[] #[]] W' fun e w' => IntBelow q W' e w' := fun W' hb => by
    have := hcf W' hb
    rw [hq]
    exact this
  have hlt := hpv.2.1
  have hlt2 := hpu.2.1
  have HOE := Lib.hid hoe; have HROW := Lib.hid hrow; have HCF := Lib.hid hcf3; have HCM := Lib.hid hcm; have HLF := Lib.hid hlf; have HW := Lib.hid hW; have HBW := Lib.hid hbW
  have C0 := Lib.hid c0; have C5 := Lib.hid c5; have D5 := Lib.hid d5'
  have HLT := Lib.hid hlt; have HLT2 := Lib.hid hlt2
  clear hoe hrow hcf hcf' hcf3 hcm hlf hW hbW hr hq hO hpv hpu hv hk hag hzag hz e4 e5 d0 d5 hlt hlt2
  by_cases h1 : r = 0
  · subst h1
    have HE : Hid (O = q) := Lib.hid (by rw [HOE.out, if_neg (by simp)])
    go_enter Tryz.func119, Tryz.ntmps119
    go_wp2_with fail
    rw [← HW.out]
    refine (HCM.out _).mono ?_
    rintro e w' ⟨rfl, rfl⟩
    go_wp2_with fail
    refine HROW.out.mono ?_
    rintro e w1 ⟨rfl, hb1⟩
    have B1 := Lib.hid hb1
    have c0' : w1.cell? ⟨w.heap.size, 0, none⟩ = some (.int .i64 0) := (hb1.cell (p := ⟨w.heap.size, 0, none⟩) HLT.out).trans C0.out
    have c5' : w1.cell? ⟨w.heap.size, 5, none⟩ = some (.slice p5 v.xs.length q5) := (hb1.cell (p := ⟨w.heap.size, 5, none⟩) HLT.out).trans C5.out
    have d5'' : w1.cell? ⟨w.heap.size + 1, 5, none⟩ = some (.slice none 0 0) := (hb1.cell (p := ⟨w.heap.size + 1, 5, none⟩) HLT2.out).trans D5.out
    clear hb1 c0 c5 d0' d5'
    go_wp2_with fail
    refine (HLF.out _).mono ?_
    rintro e w' ⟨rfl, rfl⟩
    go_wp2_with fail
    refine (HCF.out _ B1.out).mono ?_
    rintro e w6 ⟨rfl, hb6⟩
    have HB6 := Lib.hid (HBW.out.trans ((B1.out.trans (hb6.mono B1.out.size)).mono HBW.out.size))
    clear hb6
    go_wp2
    go_ret
    exact ⟨by rw [HE.out]; rfl, HB6.out⟩
  · have HE : Hid (O = r) := Lib.hid (by rw [HOE.out, if_pos h1])
    have i1 : (r != 0) = true := by simpa using h1
    have i2 : (r == 0) = false := by simpa using h1
    clear h1 HOE HCF
    go_enter Tryz.func119, Tryz.ntmps119
    go_wp2_with fail
    rw [← HW.out]
    refine (HCM.out _).mono ?_
    rintro e w' ⟨rfl, rfl⟩
    go_wp2_with fail
    refine HROW.out.mono ?_
    rintro e w1 ⟨rfl, hb1⟩
    have HB6 := Lib.hid (HBW.out.trans (hb1.mono HBW.out.size))
    clear hb1
    go_wp2
    go_ret
    exact ⟨by rw [HE.out]; rfl, HB6.out⟩
/-- Is what is no value none at all? -/
def Val.same0 (v : Val) : Bool := v.ord0 Val.zero == 0
theorem same0_none {v : Val} (h : v.noneB = true) : v.same0 = true := by
  unfold Val.noneB at h
  simp only [Bool.and_eq_true, decide_eq_true_eq] at h
  obtain ⟨⟨⟨⟨⟨h1, h2⟩, h3⟩, h4⟩, h5⟩, h6⟩ := h
  have e : v.s = ByteArray.empty := by
    refine ByteArray.ext (Array.ext' ?_)
    have h9 : v.s.toList = v.s.data.toList := Lib.toList_data v.s
    rw [h9] at h4
    simpa using h4
  unfold Val.same0 Val.ord0 Val.row0
  rw [h2, e, List.eq_nil_of_length_eq_zero h5, List.eq_nil_of_length_eq_zero h6]
  decide
set_option maxHeartbeats 1000000 in
theorem same0_any (v : Val) (w : World) (hv : v.In w) (hk : v.k = 0) : Calls Tryz.prog 98 #[v.agg, Val.zero.agg] w fun e w' => BoolBelow v.same0 w e w' := by
  obtain ⟨W, hW⟩ : ∃ W, W = (w.alloc (.cells #[.int .i64 v.k, .int .i64 v.n, .float .f64 v.f, .string v.s, v.na.val v.ns.length, v.xa.val v.xs.length] 37)).alloc (.cells #[.int .i64 0, .int .i64 0, .float .f64 0, .string ByteArray.empty, .slice none 0 0, .slice none 0 0] 37) := ⟨_, rfl⟩
  have hbW : Below w.heap.size w W := by rw [hW]; exact ((Below.refl _ _).alloc (Nat.le_refl _) _).alloc (by simp) _
  have ho := ord0_any v W (hv.below hbW) hk
  have hs : v.same0 = (v.ord0 Val.zero == 0) := rfl
  obtain ⟨c, hc⟩ : ∃ c, c = v.ord0 Val.zero := ⟨_, rfl⟩
  rw [← hc] at ho hs
  have hzag : Val.zero.agg = .agg #[.int .i64 0, .int .i64 0, .float .f64 0, .string ByteArray.empty, .slice none 0 0, .slice none 0 0] := rfl
  rw [hzag] at ho ⊢
  have HW := Lib.hid hW; have HB := Lib.hid hbW; have HO := Lib.hid ho; have HS := Lib.hid hs
  clear hW hbW ho hs hc hv hk hzag
  unfold Val.agg at *
  go_enter Tryz.func98, Tryz.ntmps98
  go_wp2_with fail
  rw [← HW.out]
  refine HO.out.mono ?_
  rintro e w' ⟨rfl, hl⟩
  have HL := Lib.hid (HB.out.trans (hl.mono HB.out.size))
  clear hl
  go_wp2
  go_ret
  exact ⟨by rw [HS.out]; rfl, HL.out⟩
end Go.Proofs.YtaamihdibpioaaaGreat

/- basculeref08.Right and Small of any expression. -/
namespace Go.Proofs.YtaamihdibpioaaaGreat
set_option linter.unusedVariables false
open Go.RowKit

mutual
def Exp.smallB : Exp → Bool
  | .mk k s v na ns xa xs => decide ((Exp.mk k s v na ns xa xs).depth 40 ≤ 30) && decide ((Exp.mk k s v na ns xa xs).count 0 < 500) && v.smallB && Exp.smallAll xs
def Exp.smallAll : List Exp → Bool
  | [] => true
  | x :: xs => x.smallB && Exp.smallAll xs
end
end Go.Proofs.YtaamihdibpioaaaGreat
