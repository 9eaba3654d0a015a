/- How two values stand to one another, items and all. -/
import Derived.Test.YtemhinagajfemaaConeM31
namespace Go.Proofs.Ytemhinagajfemaa
set_option linter.unusedVariables false
open Go.RowKit

mutual
def Val.ord : Val → Val → Int
  | .mk k n f s na ns xa xs, u =>
    if sgnI k u.k ≠ 0 then sgnI k u.k
    else if Val.row (.mk k n f s na ns xa xs) u ≠ 0 ∨ leafB k = true then Val.row (.mk k n f s na ns xa xs) u
    else Val.ordAll xs u.xs
def Val.ordAll : List Val → List Val → Int
  | [], ys => if 0 < ys.length then -1 else 0
  | x :: xs, ys => match ys with
    | [] => 1
    | y :: ys => if x.ord y ≠ 0 then x.ord y else Val.ordAll xs ys
end
theorem Val.ord_eq (v u : Val) : v.ord u = if sgnI v.k u.k ≠ 0 then sgnI v.k u.k else if v.row u ≠ 0 ∨ leafB v.k = true then v.row u else Val.ordAll v.xs u.xs := by
  cases v
  simp only [Val.ord, Val.k, Val.xs]
  rfl
mutual
/-- All kinds are kinds of values. -/
def Val.Kinds : Val → Prop
  | .mk k _ _ _ _ _ _ xs => (1 ≤ k ∧ k ≤ 6) ∧ Val.KindsAll xs
def Val.KindsAll : List Val → Prop
  | [] => True
  | x :: xs => x.Kinds ∧ Val.KindsAll xs
end
theorem Val.kindsAll_iff : ∀ xs : List Val, Val.KindsAll xs ↔ ∀ x, x ∈ xs → x.Kinds
  | [] => by simp [Val.KindsAll]
  | x :: xs => by simp [Val.KindsAll, Val.kindsAll_iff xs]
theorem Val.kinds_iff (v : Val) : v.Kinds ↔ (1 ≤ v.k ∧ v.k ≤ 6) ∧ ∀ x, x ∈ v.xs → x.Kinds := by
  cases v
  simp only [Val.Kinds, Val.kindsAll_iff, Val.k, Val.xs]

/-- How the items of two values lie, told for the walk: whatever slice it is. -/
theorem items_at {w : World} {v : Val} (h : v.In w) : ∃ p c, v.xa.val v.xs.length = .slice p v.xs.length c ∧ ∀ i (hi : i < v.xs.length), ∃ b o, p = some ⟨b, o, none⟩ ∧ PVal w b (o + i * 6) (v.xs[i]'hi) ∧ v.xs.length ≤ c := by
  rcases h.items with ⟨pz, h1, h2⟩ | ⟨b, o, cap, h1, h2, h3, h4⟩
  · exact ⟨pz, 0, by rw [h1, h2]; rfl, fun i hi => by rw [h2] at hi; simp at hi⟩
  · exact ⟨_, cap, h1, fun i hi => ⟨b, o, rfl, h4 i hi, h2⟩⟩

set_option maxHeartbeats 4000000 in
set_option maxRecDepth 100000 in
theorem cfun_any (v u : Val) (w : World) (hv : v.In w) (hu : u.In w)
    (ih : ∀ (x y : Val) (w : World), x ∈ v.xs → x.In w → y.In w → Calls Try.prog 99 #[x.agg, y.agg] w fun e w' => IntBelow (x.ord y) w e w') :
    Calls Try.prog 121 #[v.xa.val v.xs.length, u.xa.val u.xs.length, .func (Fn.func 99) #[] #[]] w fun e w' => IntBelow (Val.ordAll v.xs u.xs) w e w' := by
  have hl1 := hv.ok.2.2.2.2.2.1
  have hl2 := hu.ok.2.2.2.2.2.1
  obtain ⟨p, c, e1, A4⟩ := items_at hv
  obtain ⟨p', c', e2, B4⟩ := items_at hu
  rw [e1, e2]
  obtain ⟨L, hL⟩ : ∃ L, L = v.xs.length := ⟨_, rfl⟩
  obtain ⟨M, hM⟩ : ∃ M, M = u.xs.length := ⟨_, rfl⟩
  rw [← hL] at hl1
  rw [← hM] at hl2
  rw [← hL, ← hM]
  have HL := Lib.hid hL; have HM := Lib.hid hM; have HA := Lib.hid A4; have HB := Lib.hid B4; have HIH := Lib.hid ih
  clear e1 e2 A4 B4 hL hM hv hu ih
  have hsf := run_store_flt
  go_enter Try.func121, Try.ntmps121
  go_wp2_with fail
  go_loopw [13] (fun iv wr => ∃ i : Nat, iv = .int .i64 (i : Int) ∧ i ≤ L ∧ i ≤ M ∧ Hid (Val.ordAll (v.xs.drop i) (u.xs.drop i) = Val.ordAll v.xs u.xs) ∧ Hid (Below w.heap.size w wr)) (fun iv _ => L - (intOf iv).toNat)
  case atStart => exact ⟨0, rfl, by omega, by omega, Lib.hid rfl, Lib.hid (Below.refl _ _)⟩
  case round =>
    obtain ⟨i, rfl, hi, hi2, HR, HBL⟩ := hrel
    by_cases hlt : i < L
    · have hil : i < v.xs.length := by rw [← HL.out]; exact hlt
      obtain ⟨b, o, rfl, hp0, hLc⟩ := HA.out i hil
      have hp := hp0.below HBL.out
      obtain ⟨x, hx⟩ : ∃ x, x = v.xs[i]'hil := ⟨_, rfl⟩
      have hdr := drop_cons hil
      rw [← hx] at hp hdr
      have hxm : x ∈ v.xs := by rw [hx]; simp
      have HXM := Lib.hid hxm
      have HXIN := Lib.hid hp.in
      have d0 := hp.c0; have d1 := hp.c1; have d2 := hp.c2; have d3 := hp.c3; have d4 := hp.c4; have d5 := hp.c5
      obtain ⟨r4, t4, g4⟩ := hp.in.nslice
      obtain ⟨r5, t5, g5⟩ := hp.in.xslice
      rw [g4] at d4
      rw [g5] at d5
      have G4 := Lib.hid g4; have G5 := Lib.hid g5
      rw [← HL.out] at hLc
      by_cases hlt2 : i < M
      · have hil2 : i < u.xs.length := by rw [← HM.out]; exact hlt2
        obtain ⟨b', o', rfl, hq0, hMc⟩ := HB.out i hil2
        have hq := hq0.below HBL.out
        obtain ⟨y, hy⟩ : ∃ y, y = u.xs[i]'hil2 := ⟨_, rfl⟩
        have hdr2 := drop_cons hil2
        rw [← hy] at hq hdr2
        have HYIN := Lib.hid hq.in
        have z0 := hq.c0; have z1 := hq.c1; have z2 := hq.c2; have z3 := hq.c3; have z4 := hq.c4; have z5 := hq.c5
        obtain ⟨r4', t4', g4'⟩ := hq.in.nslice
        obtain ⟨r5', t5', g5'⟩ := hq.in.xslice
        rw [g4'] at z4
        rw [g5'] at z5
        have G4' := Lib.hid g4'; have G5' := Lib.hid g5'
        rw [← HM.out] at hMc
        have i2 : decide ((M : Int) ≤ (i : Int)) = false := by simp; omega
        have i2' : decide (M ≤ i) = false := by simp; omega
        have hst : Val.ordAll v.xs u.xs = if x.ord y ≠ 0 then x.ord y else Val.ordAll (v.xs.drop (i + 1)) (u.xs.drop (i + 1)) := by
          rw [← HR.out, hdr, hdr2]; simp only [Val.ordAll]
        have HST := Lib.hid hst
        have hlb := hq.2.1
        have hla := hp.2.1
        clear hst hx hy hp hq hp0 hq0 hxm hdr hdr2 g4 g5 g4' g5' HR
        clear hil hil2
        obtain ⟨W5, hW5⟩ : ∃ W5, W5 = (wr.alloc (.cells #[.int .i64 x.k, .int .i64 x.n, .float .f64 x.f, .string x.s, .slice r4 x.ns.length t4, .slice r5 x.xs.length t5] 46)).alloc (.cells #[.int .i64 y.k, .int .i64 y.n, .float .f64 y.f, .string y.s, .slice r4' y.ns.length t4', .slice r5' y.xs.length t5'] 46) := ⟨_, rfl⟩
        have hb5 : Below wr.heap.size wr W5 := by rw [hW5]; exact ((Below.refl _ _).alloc (Nat.le_refl _) _).alloc (by simp) _
        have hc := HIH.out x y W5 HXM.out (HXIN.out.below hb5) (HYIN.out.below hb5)
        unfold Val.agg at hc
        rw [G4.out, G5.out, G4'.out, G5'.out] at hc
        obtain ⟨c3, hc3⟩ : ∃ c3, c3 = x.ord y := ⟨_, rfl⟩
        rw [← hc3] at hc HST
        have HC := Lib.hid hc; have HW5 := Lib.hid hW5; have HB5 := Lib.hid hb5
        have hzr := HBL.out.size
        clear hc hW5 hb5 hc3
        by_cases h0 : c3 = 0
        · have HR2 : Hid (Val.ordAll (v.xs.drop (i + 1)) (u.xs.drop (i + 1)) = Val.ordAll v.xs u.xs) := Lib.hid (by rw [HST.out, if_neg (by simp [h0])])
          subst h0
          go_wp2_with fail
          rw [← HW5.out]
          refine HC.out.mono ?_
          rintro e w6 ⟨rfl, hb6⟩
          have HB6 := Lib.hid (HBL.out.trans ((HB5.out.trans (hb6.mono HB5.out.size)).mono hzr))
          clear hb6
          go_wp2
          go_roundw
          case rel => exact ⟨i + 1, by go_num, by omega, by omega, HR2, HB6⟩
          case measure => simp [intOf]; omega
        · have HR2 : Hid (Val.ordAll v.xs u.xs = c3) := Lib.hid (by rw [HST.out, if_pos h0])
          have i3 : (c3 == 0) = false := by simpa using h0
          have i4 : (c3 != 0) = true := by simpa using h0
          clear h0 HST
          go_wp2_with fail
          rw [← HW5.out]
          refine HC.out.mono ?_
          rintro e w6 ⟨rfl, hb6⟩
          have HB6 := Lib.hid (HBL.out.trans ((HB5.out.trans (hb6.mono HB5.out.size)).mono hzr))
          clear hb6
          go_wp2
          go_ret
          exact ⟨by rw [HR2.out]; rfl, HB6.out⟩
      · have hnil : u.xs.drop i = [] := List.drop_eq_nil_of_le (by rw [← HM.out]; omega)
        have HR2 : Hid (Val.ordAll v.xs u.xs = 1) := Lib.hid (by rw [← HR.out, hdr, hnil]; simp only [Val.ordAll])
        have i2 : decide ((M : Int) ≤ (i : Int)) = true := by simp; omega
        have i2' : decide (M ≤ i) = true := by simp; omega
        have hzr := HBL.out.size
        have HB6 := Lib.hid (HBL.out.trans (((Below.refl wr.heap.size wr).alloc (Nat.le_refl _) (.cells #[.int .i64 x.k, .int .i64 x.n, .float .f64 x.f, .string x.s, .slice r4 x.ns.length t4, .slice r5 x.xs.length t5] 46)).mono hzr))
        clear hx hp hp0 hxm hdr g4 g5 HR hnil
        clear hil
        go_wp2
        go_ret
        exact ⟨by rw [HR2.out]; rfl, HB6.out⟩
    · have hnil : v.xs.drop i = [] := List.drop_eq_nil_of_le (by rw [← HL.out]; omega)
      have hz : Val.ordAll v.xs u.xs = if 0 < (u.xs.drop i).length then -1 else 0 := by rw [← HR.out, hnil]; simp only [Val.ordAll]
      by_cases h0 : i < M
      · have HZ2 : Hid (Val.ordAll v.xs u.xs = -1) := Lib.hid (by rw [hz, if_pos (by simp; rw [← HM.out]; omega)])
        have i1 : decide ((L : Int) < (M : Int)) = true := by simp; omega
        have i1' : decide (L < M) = true := by simp; omega
        clear hz hnil
        go_wp2
        go_ret
        exact ⟨by rw [HZ2.out]; rfl, HBL.out⟩
      · have HZ2 : Hid (Val.ordAll v.xs u.xs = 0) := Lib.hid (by rw [hz, if_neg (by simp; rw [← HM.out]; omega)])
        have i1 : decide ((L : Int) < (M : Int)) = false := by simp; omega
        have i1' : decide (L < M) = false := by simp; omega
        clear hz hnil
        go_wp2
        go_ret
        exact ⟨by rw [HZ2.out]; rfl, HBL.out⟩
end Go.Proofs.Ytemhinagajfemaa
