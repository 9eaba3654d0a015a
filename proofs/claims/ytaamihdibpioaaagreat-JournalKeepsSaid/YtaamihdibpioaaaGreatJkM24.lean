/- The document's answers: how two values stand. -/
import Derived.Test.YtaamihdibpioaaaGreatJkM7
import Derived.Test.YtaamihdibpioaaaGreatJkM22
import Derived.Test.YtaamihdibpioaaaGreatJkM23
import Derived.Deep.DeepCutAuto
import Derived.Deep.CutBlock
import Derived.StillTailTactics
namespace Go.Proofs.YtaamihdibpioaaaGreat
set_option linter.unusedVariables false
open Go.RowKit

def Val.rh1 (v u : Val) : Int := if v.k = 5 ∨ v.k = 6 then 0 else if sgnI v.n u.n ≠ 0 then sgnI v.n u.n else scmp v.s u.s
def Val.rhead (v u : Val) : Int := if v.rh1 u = 0 ∧ v.k ≠ 5 then ncmp v.ns u.ns else v.rh1 u
mutual
def Val.rord : Val → Val → Int
  | .mk k n f s na ns xa xs, u =>
    if k ≠ u.k then sgnI k u.k
    else if k = 1 ∨ k = 2 then sgnI n u.n
    else if k = 3 then ford f u.f
    else if k = 4 then scmp s u.s
    else if Val.rhead (.mk k n f s na ns xa xs) u ≠ 0 then Val.rhead (.mk k n f s na ns xa xs) u
    else Val.rordAll xs u.xs
def Val.rordAll : List Val → List Val → Int
  | [], ys => if 0 < ys.length then -1 else 0
  | x :: xs, ys => match ys with
    | [] => 1
    | y :: ys => if x.rord y ≠ 0 then x.rord y else Val.rordAll xs ys
end
theorem Val.rord_eq (v u : Val) : v.rord u = if v.k ≠ u.k then sgnI v.k u.k else if v.k = 1 ∨ v.k = 2 then sgnI v.n u.n else if v.k = 3 then ford v.f u.f else if v.k = 4 then scmp v.s u.s
    else if v.rhead u ≠ 0 then v.rhead u else Val.rordAll v.xs u.xs := by
  cases v
  simp only [Val.rord, Val.k, Val.n, Val.f, Val.s, Val.xs]
  rfl
theorem rordAll_end {xs ys : List Val} {i : Nat} (h : i ≤ xs.length) (h' : i ≤ ys.length) (hx : i = xs.length ∨ i = ys.length) : Val.rordAll (xs.drop i) (ys.drop i) = sgnI (xs.length : Int) (ys.length : Int) := by
  unfold sgnI
  rcases hx with hx | hx
  · rw [show xs.drop i = [] from List.drop_eq_nil_of_le (Nat.le_of_eq hx.symm)]
    simp only [Val.rordAll, List.length_drop]
    by_cases hm : xs.length < ys.length
    · rw [if_pos (by omega), if_pos (by omega)]
    · rw [if_neg (by omega), if_neg (by omega), if_neg (by omega)]
  · rw [show ys.drop i = [] from List.drop_eq_nil_of_le (Nat.le_of_eq hx.symm)]
    by_cases hm : ys.length < xs.length
    · rw [drop_cons (show i < xs.length by omega), if_neg (by omega), if_pos (by omega)]
      rfl
    · rw [show xs.drop i = [] from List.drop_eq_nil_of_le (by omega), if_neg (by omega), if_neg (by omega)]
      rfl
theorem rordAll_step {xs ys : List Val} {i : Nat} (h : i < xs.length) (h' : i < ys.length) : Val.rordAll (xs.drop i) (ys.drop i) = if (xs[i]'h).rord (ys[i]'h') ≠ 0 then (xs[i]'h).rord (ys[i]'h') else Val.rordAll (xs.drop (i + 1)) (ys.drop (i + 1)) := by
  rw [drop_cons h, drop_cons h']
  simp only [Val.rordAll]

theorem in_drew {w : World} {v : Val} (h : v.In w) : v.In w.drew := Val.in_carry (w := w) (w' := w.drew) (fun _ _ _ => rfl) (Nat.le_refl _) _ v (Nat.le_refl _) h
set_option maxHeartbeats 8000000 in
set_option maxRecDepth 100000 in
theorem rord_any (d : Nat) : ∀ (v u : Val) (w : World), v.sz ≤ d → v.In w → u.In w → Calls Tryz.prog 49 #[v.agg, u.agg] w fun e w' => IntBelow (v.rord u) w e w' := by
  induction d with
  | zero => intro v u w hd; rw [Val.sz_eq] at hd; omega
  | succ d ih =>
    intro v u w hd hv hu
    have HIH := Lib.hid ih
    clear ih
    obtain ⟨W, hW⟩ : ∃ W, W = (w.alloc (.cells v.cells.toArray 37)).alloc (.cells u.cells.toArray 37) := ⟨_, rfl⟩
    have hbW : Below w.heap.size w W := by rw [hW]; exact ((Below.refl _ _).alloc (Nat.le_refl _) _).alloc (by simp) _
    have hpv : Blk W w.heap.size 37 v.cells.toArray := by rw [hW]; exact (Blk.new w 37 _).alloc _
    have hpu : Blk W (w.heap.size + 1) 37 u.cells.toArray := by
      rw [hW]
      have := Blk.new (w.alloc (.cells v.cells.toArray 37)) 37 u.cells.toArray
      rw [show (w.alloc (.cells v.cells.toArray 37)).heap.size = w.heap.size + 1 from by simp] at this
      exact this
    have hoe := Val.rord_eq v u
    obtain ⟨R, hR⟩ : ∃ R, R = v.rord u := ⟨_, rfl⟩
    rw [← hR] at hoe ⊢
    obtain ⟨p4, q4, e4, n4⟩ := names_in (NamesAt.of (hv.below hbW))
    obtain ⟨r4, t4, f4, m4⟩ := names_in (NamesAt.of (hu.below hbW))
    obtain ⟨p5, q5, e5, x5⟩ := items_at (hv.below hbW)
    obtain ⟨r5, t5, f5, y5⟩ := items_at (hu.below hbW)
    have hrows := fun (k : Nat) => rows_any (v.na.val v.ns.length) (u.na.val u.ns.length) v.ns u.ns (W.drewN k) ((NamesAt.of (hv.below hbW)).drewN k) ((NamesAt.of (hu.below hbW)).drewN k) hv.ok.2.2.2.2.1 hu.ok.2.2.2.2.1
    have hfo := fun (W : World) => rorder_any v.f u.f W hv.ok.2.2.1 hu.ok.2.2.1
    have hxl := hv.ok.2.2.2.2.2.1
    have hyl := hu.ok.2.2.2.2.2.1
    unfold Val.cells at hW hpv hpu
    unfold Val.agg
    rw [e4, e5, f4, f5] at hW
    rw [e4, e5] at hpv ⊢
    rw [f4, f5] at hpu ⊢
    simp only [e4, f4] at hrows
    obtain ⟨K, hK⟩ : ∃ K, K = v.k := ⟨_, rfl⟩
    obtain ⟨J, hJ⟩ : ∃ J, J = u.k := ⟨_, rfl⟩
    obtain ⟨L, hL⟩ : ∃ L, L = v.xs.length := ⟨_, rfl⟩
    obtain ⟨M, hM⟩ : ∃ M, M = u.xs.length := ⟨_, rfl⟩
    rw [← hK, ← hL] at hW hpv ⊢
    rw [← hJ, ← hM] at hW hpu ⊢
    rw [← hK, ← hJ] at hoe
    rw [← hL] at hxl
    rw [← hM] at hyl
    have HOE := Lib.hid hoe; have HROWS := Lib.hid hrows; have HFO := Lib.hid hfo; have HW := Lib.hid hW; have HBW := Lib.hid hbW; have HPV := Lib.hid hpv; have HPU := Lib.hid hpu
    have HX5 := Lib.hid x5; have HY5 := Lib.hid y5; have HL := Lib.hid hL; have HM := Lib.hid hM; have HK := Lib.hid hK
    have HSZ := Lib.hid (show ∀ x, x ∈ v.xs → x.sz ≤ d from fun x hx => by have := Val.size_mem hx; omega)
    have a0 := hpv.cell 0; have a1 := hpv.cell 1; have a2 := hpv.cell 2; have a3 := hpv.cell 3; have a4 := hpv.cell 4; have a5 := hpv.cell 5
    have b0 := hpu.cell 0; have b1 := hpu.cell 1; have b2 := hpu.cell 2; have b3 := hpu.cell 3; have b4 := hpu.cell 4; have b5 := hpu.cell 5
    simp only [List.getElem?_toArray, List.getElem?_cons_zero, List.getElem?_cons_succ] at a0 a1 a2 a3 a4 a5 b0 b1 b2 b3 b4 b5
    clear hoe hrows hfo hW hbW hpv hpu e4 e5 f4 f5 n4 m4 x5 y5 hK hJ hL hM hv hu hd hR
    by_cases hkj : K = J
    · subst hkj
      have t0 : (K != K) = false := by simp
      by_cases k1 : K = 1 ∨ K = 2
      · have HE : Hid (R = sgnI v.n u.n) := Lib.hid (by rw [HOE.out, if_neg (by simp), if_pos k1])
        rcases k1 with rfl | rfl
        all_goals
          go_enter Tryz.func49, Tryz.ntmps49
          go_wp2_with fail
          rw [← HW.out]
          go_wp2_with fail
          refine (sign_any v.n u.n _).mono ?_
          rintro e w' ⟨rfl, rfl⟩
          go_wp2
          go_ret
          exact ⟨by rw [HE.out]; rfl, HBW.out⟩
      · by_cases k3 : K = 3
        · have HE : Hid (R = ford v.f u.f) := Lib.hid (by rw [HOE.out, if_neg (by simp), if_neg k1, if_pos k3])
          subst k3
          clear k1
          go_enter Tryz.func49, Tryz.ntmps49
          go_wp2_with fail
          rw [← HW.out]
          go_wp2_with fail
          refine (HFO.out _).mono ?_
          rintro e w' ⟨rfl, rfl⟩
          go_wp2
          go_ret
          exact ⟨by rw [HE.out]; rfl, HBW.out⟩
        by_cases k4 : K = 4
        · have HE : Hid (R = scmp v.s u.s) := Lib.hid (by rw [HOE.out, if_neg (by simp), if_neg k1, if_neg k3, if_pos k4])
          subst k4
          clear k1 k3
          go_enter Tryz.func49, Tryz.ntmps49
          go_wp2_with fail
          rw [← HW.out]
          go_wp2_with fail
          refine (text_any v.s u.s _).mono ?_
          rintro e w' ⟨rfl, rfl⟩
          go_wp2
          go_ret
          exact ⟨by rw [HE.out]; rfl, HBW.out⟩
        have HE : Hid (R = if v.rhead u ≠ 0 then v.rhead u else Val.rordAll v.xs u.xs) := Lib.hid (by rw [HOE.out, if_neg (by simp), if_neg k1, if_neg k3, if_neg k4])
        have i1 : (K == 1) = false := by simp; omega
        have i2 : (K == 2) = false := by simp; omega
        have i3 : (K == 3) = false := by simp; omega
        have i4 : (K == 4) = false := by simp; omega
        -- LEAVES
        have HH : Hid (v.rhead u = if (if K = 5 ∨ K = 6 then 0 else if sgnI v.n u.n ≠ 0 then sgnI v.n u.n else scmp v.s u.s) = 0 ∧ K ≠ 5 then ncmp v.ns u.ns else (if K = 5 ∨ K = 6 then 0 else if sgnI v.n u.n ≠ 0 then sgnI v.n u.n else scmp v.s u.s)) := Lib.hid (by unfold Val.rhead Val.rh1; rw [← HK.out])
        clear HOE
        by_cases k5 : K = 5
        · have HS : Hid (R = Val.rordAll v.xs u.xs) := Lib.hid (by rw [HE.out, HH.out]; simp [k5])
          subst k5
          clear k1 k3 k4
          go_enter Tryz.func49, Tryz.ntmps49
          go_wp2_with fail
          rw [← HW.out]
          go_wp2_with fail
          go_loopw [5, 6] (fun cv iv wr => ∃ (i : Nat) (c : Int), cv = .int .i64 c ∧ iv = .int .i64 (i : Int) ∧ i ≤ L ∧ i ≤ M ∧ Hid ((if c ≠ 0 then c else Val.rordAll (v.xs.drop i) (u.xs.drop i)) = R) ∧ Hid (Below W.heap.size W wr)) (fun _ iv _ => L - (intOf iv).toNat)
          case atStart => exact ⟨0, _, rfl, rfl, by omega, by omega, Lib.hid (by rw [if_neg (by simp), HS.out]; rfl), Lib.hid (Below.refl _ _)⟩
          case round =>
            obtain ⟨i, c, rfl, rfl, hi, hi2, HR, HB⟩ := hrel
            clear a0 a1 a2 a3 a4 a5 b0 b1 b2 b3 b4 b5
            have a5 := (HPV.out.below HB.out HPV.out.lt).cell 5
            have b5 := (HPU.out.below HB.out HPU.out.lt).cell 5
            simp only [List.getElem?_toArray, List.getElem?_cons_zero, List.getElem?_cons_succ] at a5 b5
            by_cases hc : c = 0
            · subst hc
              by_cases hlt : i < L ∧ i < M
              · obtain ⟨hlt1, hlt2⟩ := hlt
                have hil1 : i < v.xs.length := by rw [← HL.out]; exact hlt1
                have hil2 : i < u.xs.length := by rw [← HM.out]; exact hlt2
                obtain ⟨xb, xo, rfl, hpx, hlc⟩ := HX5.out i hil1
                obtain ⟨yb, yo, rfl, hpy, hlc2⟩ := HY5.out i hil2
                rw [← HL.out] at hlc
                rw [← HM.out] at hlc2
                have hst := rordAll_step hil1 hil2
                have hsz := HSZ.out (v.xs[i]'hil1) (by simp)
                have hHR := HR.out
                rw [if_neg (by simp), hst] at hHR
                obtain ⟨x, hxx⟩ : ∃ x, x = v.xs[i]'hil1 := ⟨_, rfl⟩
                obtain ⟨y, hyy⟩ : ∃ y, y = u.xs[i]'hil2 := ⟨_, rfl⟩
                rw [← hxx] at hpx hHR hsz
                rw [← hyy] at hpy hHR
                have hk0 : (0 : Int) ≤ (i : Int) := by omega
                have hk1 : (i : Int) < (L : Int) := by omega
                have hk2 : (i : Int) < (M : Int) := by omega
                have HPX := Lib.hid hpx; have HPY := Lib.hid hpy; have HHR := Lib.hid hHR; have HSZ2 := Lib.hid hsz
                clear hpx hpy hHR hsz hst HR hxx hyy hil1 hil2
                go_wp2_with fail
                have hpx := HPX.out; have hpy := HPY.out; have hHR := HHR.out; have hsz := HSZ2.out
                have hpx := hpx.below HB.out
                have hpy := hpy.below HB.out
                have x0 := hpx.c0; have x1 := hpx.c1; have x2 := hpx.c2; have x3 := hpx.c3; have x4 := hpx.c4; have x5 := hpx.c5
                have y0 := hpy.c0; have y1 := hpy.c1; have y2 := hpy.c2; have y3 := hpy.c3; have y4 := hpy.c4; have y5 := hpy.c5
                obtain ⟨s4, z4, g4⟩ := hpx.in.nslice
                obtain ⟨s5, z5, g5⟩ := hpx.in.xslice
                obtain ⟨s6, z6, g6⟩ := hpy.in.nslice
                obtain ⟨s7, z7, g7⟩ := hpy.in.xslice
                rw [g4] at x4
                rw [g5] at x5
                rw [g6] at y4
                rw [g7] at y5
                have hcc := HIH.out x y wr.drew hsz (in_drew hpx.in) (in_drew hpy.in)
                unfold Val.agg at hcc
                rw [g4, g5, g6, g7] at hcc
                obtain ⟨q, hq⟩ : ∃ q, q = x.rord y := ⟨_, rfl⟩
                rw [← hq] at hcc hHR
                have HC2 := Lib.hid hcc; have HR2 := Lib.hid hHR
                clear hpx hpy hcc hq g4 g5 g6 g7 hsz hHR HPX HPY HHR HSZ2
                go_still_tail 10, (by kernel_rfl)
                change wpList _ _ _ _ _ wr.drew
                go_wp2_with fail
                refine HC2.out.mono ?_
                rintro e w1 ⟨rfl, hb1⟩
                have HB1 := Lib.hid (HB.out.trans (((Below.refl _ _).drew.trans hb1).mono HB.out.size))
                clear hb1 x0 x1 x2 x3 x4 x5 y0 y1 y2 y3 y4 y5 a5 b5 HC2
                go_wp2
                go_roundw
                case rel => exact ⟨i + 1, q, rfl, by go_num, by omega, by omega, HR2, HB1⟩
                case measure => simp [intOf]; omega
              · have hse := sign_any (L : Int) (M : Int) wr
                have hHR := HR.out
                rw [if_neg (by simp), rordAll_end (by rw [← HL.out]; exact hi) (by rw [← HM.out]; exact hi2) (by rw [← HL.out, ← HM.out]; omega), ← HL.out, ← HM.out] at hHR
                rw [hHR] at hse
                have HS := Lib.hid hse
                clear hse HR hHR
                by_cases h1 : i < L
                · have h2 : ¬ i < M := by omega
                  have t1 : decide ((i : Int) < (M : Int)) = false := by simp; omega
                  have t1' : decide (i < M) = false := by simp; omega
                  clear hlt
                  go_wp2_with fail
                  refine HS.out.mono ?_
                  rintro e w' ⟨rfl, rfl⟩
                  go_wp2
                  go_ret
                  exact ⟨rfl, HBW.out.trans (HB.out.mono HBW.out.size)⟩
                · have t1 : decide ((i : Int) < (L : Int)) = false := by simp; omega
                  have t1' : decide (i < L) = false := by simp; omega
                  clear hlt
                  go_wp2_with fail
                  refine HS.out.mono ?_
                  rintro e w' ⟨rfl, rfl⟩
                  go_wp2
                  go_ret
                  exact ⟨rfl, HBW.out.trans (HB.out.mono HBW.out.size)⟩
            · have HRC : Hid (R = c) := Lib.hid (by rw [← HR.out, if_pos hc])
              have j1 : (c == 0) = false := by simpa using hc
              clear hc HR
              by_cases h1 : i < L
              · by_cases h2 : i < M
                · go_wp2
                  go_ret
                  exact ⟨by rw [HRC.out]; rfl, HBW.out.trans (HB.out.mono HBW.out.size)⟩
                · have t1 : decide ((i : Int) < (M : Int)) = false := by simp; omega
                  have t1' : decide (i < M) = false := by simp; omega
                  go_wp2
                  go_ret
                  exact ⟨by rw [HRC.out]; rfl, HBW.out.trans (HB.out.mono HBW.out.size)⟩
              · have t1 : decide ((i : Int) < (L : Int)) = false := by simp; omega
                have t1' : decide (i < L) = false := by simp; omega
                go_wp2
                go_ret
                exact ⟨by rw [HRC.out]; rfl, HBW.out.trans (HB.out.mono HBW.out.size)⟩
        by_cases k6 : K = 6
        · obtain ⟨N, hN⟩ : ∃ N, N = ncmp v.ns u.ns := ⟨_, rfl⟩
          have HS : Hid (R = if N ≠ 0 then N else Val.rordAll v.xs u.xs) := Lib.hid (by rw [HE.out, HH.out, hN]; simp [k6])
          simp only [← hN] at HROWS
          clear hN
          subst k6
          clear k1 k3 k4
          go_enter Tryz.func49, Tryz.ntmps49
          go_wp2_with fail
          rw [← HW.out]
          go_wp2_with fail
          refine (HROWS.out 0).mono ?_
          rintro e w2 ⟨rfl, kd, hkd⟩
          have HB2 := Lib.hid (show Below W.heap.size W w2 by rw [hkd]; exact below_drewN (Below.refl _ _) _)
          clear hkd
          go_wp2_with fail
          go_loopw [5, 6] (fun cv iv wr => ∃ (i : Nat) (c : Int), cv = .int .i64 c ∧ iv = .int .i64 (i : Int) ∧ i ≤ L ∧ i ≤ M ∧ Hid ((if c ≠ 0 then c else Val.rordAll (v.xs.drop i) (u.xs.drop i)) = R) ∧ Hid (Below W.heap.size W wr)) (fun _ iv _ => L - (intOf iv).toNat)
          case atStart => exact ⟨0, _, rfl, rfl, by omega, by omega, Lib.hid (by rw [HS.out]; rfl), HB2⟩
          case round =>
            obtain ⟨i, c, rfl, rfl, hi, hi2, HR, HB⟩ := hrel
            clear a0 a1 a2 a3 a4 a5 b0 b1 b2 b3 b4 b5
            have a5 := (HPV.out.below HB.out HPV.out.lt).cell 5
            have b5 := (HPU.out.below HB.out HPU.out.lt).cell 5
            simp only [List.getElem?_toArray, List.getElem?_cons_zero, List.getElem?_cons_succ] at a5 b5
            by_cases hc : c = 0
            · subst hc
              by_cases hlt : i < L ∧ i < M
              · obtain ⟨hlt1, hlt2⟩ := hlt
                have hil1 : i < v.xs.length := by rw [← HL.out]; exact hlt1
                have hil2 : i < u.xs.length := by rw [← HM.out]; exact hlt2
                obtain ⟨xb, xo, rfl, hpx, hlc⟩ := HX5.out i hil1
                obtain ⟨yb, yo, rfl, hpy, hlc2⟩ := HY5.out i hil2
                rw [← HL.out] at hlc
                rw [← HM.out] at hlc2
                have hst := rordAll_step hil1 hil2
                have hsz := HSZ.out (v.xs[i]'hil1) (by simp)
                have hHR := HR.out
                rw [if_neg (by simp), hst] at hHR
                obtain ⟨x, hxx⟩ : ∃ x, x = v.xs[i]'hil1 := ⟨_, rfl⟩
                obtain ⟨y, hyy⟩ : ∃ y, y = u.xs[i]'hil2 := ⟨_, rfl⟩
                rw [← hxx] at hpx hHR hsz
                rw [← hyy] at hpy hHR
                have hk0 : (0 : Int) ≤ (i : Int) := by omega
                have hk1 : (i : Int) < (L : Int) := by omega
                have hk2 : (i : Int) < (M : Int) := by omega
                have HPX := Lib.hid hpx; have HPY := Lib.hid hpy; have HHR := Lib.hid hHR; have HSZ2 := Lib.hid hsz
                clear hpx hpy hHR hsz hst HR hxx hyy hil1 hil2
                go_wp2_with fail
                have hpx := HPX.out; have hpy := HPY.out; have hHR := HHR.out; have hsz := HSZ2.out
                have hpx := hpx.below HB.out
                have hpy := hpy.below HB.out
                have x0 := hpx.c0; have x1 := hpx.c1; have x2 := hpx.c2; have x3 := hpx.c3; have x4 := hpx.c4; have x5 := hpx.c5
                have y0 := hpy.c0; have y1 := hpy.c1; have y2 := hpy.c2; have y3 := hpy.c3; have y4 := hpy.c4; have y5 := hpy.c5
                obtain ⟨s4, z4, g4⟩ := hpx.in.nslice
                obtain ⟨s5, z5, g5⟩ := hpx.in.xslice
                obtain ⟨s6, z6, g6⟩ := hpy.in.nslice
                obtain ⟨s7, z7, g7⟩ := hpy.in.xslice
                rw [g4] at x4
                rw [g5] at x5
                rw [g6] at y4
                rw [g7] at y5
                have hcc := HIH.out x y wr.drew hsz (in_drew hpx.in) (in_drew hpy.in)
                unfold Val.agg at hcc
                rw [g4, g5, g6, g7] at hcc
                obtain ⟨q, hq⟩ : ∃ q, q = x.rord y := ⟨_, rfl⟩
                rw [← hq] at hcc hHR
                have HC2 := Lib.hid hcc; have HR2 := Lib.hid hHR
                clear hpx hpy hcc hq g4 g5 g6 g7 hsz hHR HPX HPY HHR HSZ2
                go_still_tail 10, (by kernel_rfl)
                change wpList _ _ _ _ _ wr.drew
                go_wp2_with fail
                refine HC2.out.mono ?_
                rintro e w1 ⟨rfl, hb1⟩
                have HB1 := Lib.hid (HB.out.trans (((Below.refl _ _).drew.trans hb1).mono HB.out.size))
                clear hb1 x0 x1 x2 x3 x4 x5 y0 y1 y2 y3 y4 y5 a5 b5 HC2
                go_wp2
                go_roundw
                case rel => exact ⟨i + 1, q, rfl, by go_num, by omega, by omega, HR2, HB1⟩
                case measure => simp [intOf]; omega
              · have hse := sign_any (L : Int) (M : Int) wr
                have hHR := HR.out
                rw [if_neg (by simp), rordAll_end (by rw [← HL.out]; exact hi) (by rw [← HM.out]; exact hi2) (by rw [← HL.out, ← HM.out]; omega), ← HL.out, ← HM.out] at hHR
                rw [hHR] at hse
                have HS := Lib.hid hse
                clear hse HR hHR
                by_cases h1 : i < L
                · have h2 : ¬ i < M := by omega
                  have t1 : decide ((i : Int) < (M : Int)) = false := by simp; omega
                  have t1' : decide (i < M) = false := by simp; omega
                  clear hlt
                  go_wp2_with fail
                  refine HS.out.mono ?_
                  rintro e w' ⟨rfl, rfl⟩
                  go_wp2
                  go_ret
                  exact ⟨rfl, HBW.out.trans (HB.out.mono HBW.out.size)⟩
                · have t1 : decide ((i : Int) < (L : Int)) = false := by simp; omega
                  have t1' : decide (i < L) = false := by simp; omega
                  clear hlt
                  go_wp2_with fail
                  refine HS.out.mono ?_
                  rintro e w' ⟨rfl, rfl⟩
                  go_wp2
                  go_ret
                  exact ⟨rfl, HBW.out.trans (HB.out.mono HBW.out.size)⟩
            · have HRC : Hid (R = c) := Lib.hid (by rw [← HR.out, if_pos hc])
              have j1 : (c == 0) = false := by simpa using hc
              clear hc HR
              by_cases h1 : i < L
              · by_cases h2 : i < M
                · go_wp2
                  go_ret
                  exact ⟨by rw [HRC.out]; rfl, HBW.out.trans (HB.out.mono HBW.out.size)⟩
                · have t1 : decide ((i : Int) < (M : Int)) = false := by simp; omega
                  have t1' : decide (i < M) = false := by simp; omega
                  go_wp2
                  go_ret
                  exact ⟨by rw [HRC.out]; rfl, HBW.out.trans (HB.out.mono HBW.out.size)⟩
              · have t1 : decide ((i : Int) < (L : Int)) = false := by simp; omega
                have t1' : decide (i < L) = false := by simp; omega
                go_wp2
                go_ret
                exact ⟨by rw [HRC.out]; rfl, HBW.out.trans (HB.out.mono HBW.out.size)⟩
        have i5 : (K == 5) = false := by simpa using k5
        have i6 : (K == 6) = false := by simpa using k6
        have i5' : (K != 5) = true := by simpa using k5
        have i6' : (K != 6) = true := by simpa using k6
        have HSG := Lib.hid (fun W : World => sign_any v.n u.n W)
        have HTX := Lib.hid (fun W : World => text_any v.s u.s W)
        by_cases h1 : sgnI v.n u.n = 0
        · by_cases h2 : scmp v.s u.s = 0
          · obtain ⟨N, hN⟩ : ∃ N, N = ncmp v.ns u.ns := ⟨_, rfl⟩
            have HS : Hid (R = if N ≠ 0 then N else Val.rordAll v.xs u.xs) := Lib.hid (by rw [HE.out, HH.out, hN]; simp [k5, k6, h1, h2])
            simp only [← hN] at HROWS
            clear hN
            simp only [h1] at HSG
            simp only [h2] at HTX
            clear h1 h2 k5 k6 k1 k3 k4
            go_enter Tryz.func49, Tryz.ntmps49
            go_wp2_with fail
            rw [← HW.out]
            go_wp2_with fail
            refine (HSG.out _).mono ?_
            rintro e w' ⟨rfl, rfl⟩
            go_wp2_with fail
            refine (HTX.out _).mono ?_
            rintro e w' ⟨rfl, rfl⟩
            go_wp2_with fail
            refine (HROWS.out 0).mono ?_
            rintro e w2 ⟨rfl, kd, hkd⟩
            have HB2 := Lib.hid (show Below W.heap.size W w2 by rw [hkd]; exact below_drewN (Below.refl _ _) _)
            clear hkd
            go_wp2_with fail
            go_loopw [5, 6] (fun cv iv wr => ∃ (i : Nat) (c : Int), cv = .int .i64 c ∧ iv = .int .i64 (i : Int) ∧ i ≤ L ∧ i ≤ M ∧ Hid ((if c ≠ 0 then c else Val.rordAll (v.xs.drop i) (u.xs.drop i)) = R) ∧ Hid (Below W.heap.size W wr)) (fun _ iv _ => L - (intOf iv).toNat)
            case atStart => exact ⟨0, _, rfl, rfl, by omega, by omega, Lib.hid (by rw [HS.out]; rfl), HB2⟩
            case round =>
              obtain ⟨i, c, rfl, rfl, hi, hi2, HR, HB⟩ := hrel
              clear a0 a1 a2 a3 a4 a5 b0 b1 b2 b3 b4 b5
              have a5 := (HPV.out.below HB.out HPV.out.lt).cell 5
              have b5 := (HPU.out.below HB.out HPU.out.lt).cell 5
              simp only [List.getElem?_toArray, List.getElem?_cons_zero, List.getElem?_cons_succ] at a5 b5
              by_cases hc : c = 0
              · subst hc
                by_cases hlt : i < L ∧ i < M
                · obtain ⟨hlt1, hlt2⟩ := hlt
                  have hil1 : i < v.xs.length := by rw [← HL.out]; exact hlt1
                  have hil2 : i < u.xs.length := by rw [← HM.out]; exact hlt2
                  obtain ⟨xb, xo, rfl, hpx, hlc⟩ := HX5.out i hil1
                  obtain ⟨yb, yo, rfl, hpy, hlc2⟩ := HY5.out i hil2
                  rw [← HL.out] at hlc
                  rw [← HM.out] at hlc2
                  have hst := rordAll_step hil1 hil2
                  have hsz := HSZ.out (v.xs[i]'hil1) (by simp)
                  have hHR := HR.out
                  rw [if_neg (by simp), hst] at hHR
                  obtain ⟨x, hxx⟩ : ∃ x, x = v.xs[i]'hil1 := ⟨_, rfl⟩
                  obtain ⟨y, hyy⟩ : ∃ y, y = u.xs[i]'hil2 := ⟨_, rfl⟩
                  rw [← hxx] at hpx hHR hsz
                  rw [← hyy] at hpy hHR
                  have hk0 : (0 : Int) ≤ (i : Int) := by omega
                  have hk1 : (i : Int) < (L : Int) := by omega
                  have hk2 : (i : Int) < (M : Int) := by omega
                  have HPX := Lib.hid hpx; have HPY := Lib.hid hpy; have HHR := Lib.hid hHR; have HSZ2 := Lib.hid hsz
                  clear hpx hpy hHR hsz hst HR hxx hyy hil1 hil2
                  go_wp2_with fail
                  have hpx := HPX.out; have hpy := HPY.out; have hHR := HHR.out; have hsz := HSZ2.out
                  have hpx := hpx.below HB.out
                  have hpy := hpy.below HB.out
                  have x0 := hpx.c0; have x1 := hpx.c1; have x2 := hpx.c2; have x3 := hpx.c3; have x4 := hpx.c4; have x5 := hpx.c5
                  have y0 := hpy.c0; have y1 := hpy.c1; have y2 := hpy.c2; have y3 := hpy.c3; have y4 := hpy.c4; have y5 := hpy.c5
                  obtain ⟨s4, z4, g4⟩ := hpx.in.nslice
                  obtain ⟨s5, z5, g5⟩ := hpx.in.xslice
                  obtain ⟨s6, z6, g6⟩ := hpy.in.nslice
                  obtain ⟨s7, z7, g7⟩ := hpy.in.xslice
                  rw [g4] at x4
                  rw [g5] at x5
                  rw [g6] at y4
                  rw [g7] at y5
                  have hcc := HIH.out x y wr.drew hsz (in_drew hpx.in) (in_drew hpy.in)
                  unfold Val.agg at hcc
                  rw [g4, g5, g6, g7] at hcc
                  obtain ⟨q, hq⟩ : ∃ q, q = x.rord y := ⟨_, rfl⟩
                  rw [← hq] at hcc hHR
                  have HC2 := Lib.hid hcc; have HR2 := Lib.hid hHR
                  clear hpx hpy hcc hq g4 g5 g6 g7 hsz hHR HPX HPY HHR HSZ2
                  go_still_tail 10, (by kernel_rfl)
                  change wpList _ _ _ _ _ wr.drew
                  go_wp2_with fail
                  refine HC2.out.mono ?_
                  rintro e w1 ⟨rfl, hb1⟩
                  have HB1 := Lib.hid (HB.out.trans (((Below.refl _ _).drew.trans hb1).mono HB.out.size))
                  clear hb1 x0 x1 x2 x3 x4 x5 y0 y1 y2 y3 y4 y5 a5 b5 HC2
                  go_wp2
                  go_roundw
                  case rel => exact ⟨i + 1, q, rfl, by go_num, by omega, by omega, HR2, HB1⟩
                  case measure => simp [intOf]; omega
                · have hse := sign_any (L : Int) (M : Int) wr
                  have hHR := HR.out
                  rw [if_neg (by simp), rordAll_end (by rw [← HL.out]; exact hi) (by rw [← HM.out]; exact hi2) (by rw [← HL.out, ← HM.out]; omega), ← HL.out, ← HM.out] at hHR
                  rw [hHR] at hse
                  have HS := Lib.hid hse
                  clear hse HR hHR
                  by_cases h1 : i < L
                  · have h2 : ¬ i < M := by omega
                    have t1 : decide ((i : Int) < (M : Int)) = false := by simp; omega
                    have t1' : decide (i < M) = false := by simp; omega
                    clear hlt
                    go_wp2_with fail
                    refine HS.out.mono ?_
                    rintro e w' ⟨rfl, rfl⟩
                    go_wp2
                    go_ret
                    exact ⟨rfl, HBW.out.trans (HB.out.mono HBW.out.size)⟩
                  · have t1 : decide ((i : Int) < (L : Int)) = false := by simp; omega
                    have t1' : decide (i < L) = false := by simp; omega
                    clear hlt
                    go_wp2_with fail
                    refine HS.out.mono ?_
                    rintro e w' ⟨rfl, rfl⟩
                    go_wp2
                    go_ret
                    exact ⟨rfl, HBW.out.trans (HB.out.mono HBW.out.size)⟩
              · have HRC : Hid (R = c) := Lib.hid (by rw [← HR.out, if_pos hc])
                have j1 : (c == 0) = false := by simpa using hc
                clear hc HR
                by_cases h1 : i < L
                · by_cases h2 : i < M
                  · go_wp2
                    go_ret
                    exact ⟨by rw [HRC.out]; rfl, HBW.out.trans (HB.out.mono HBW.out.size)⟩
                  · have t1 : decide ((i : Int) < (M : Int)) = false := by simp; omega
                    have t1' : decide (i < M) = false := by simp; omega
                    go_wp2
                    go_ret
                    exact ⟨by rw [HRC.out]; rfl, HBW.out.trans (HB.out.mono HBW.out.size)⟩
                · have t1 : decide ((i : Int) < (L : Int)) = false := by simp; omega
                  have t1' : decide (i < L) = false := by simp; omega
                  go_wp2
                  go_ret
                  exact ⟨by rw [HRC.out]; rfl, HBW.out.trans (HB.out.mono HBW.out.size)⟩
          · have HS : Hid (R = scmp v.s u.s) := Lib.hid (by rw [HE.out, HH.out]; simp [k5, k6, h1, h2])
            obtain ⟨N, hN⟩ : ∃ N, N = scmp v.s u.s := ⟨_, rfl⟩
            simp only [h1] at HSG
            simp only [← hN] at HTX HS h2
            have j2 : (N == 0) = false := by simpa using h2
            have H2 := Lib.hid h2
            clear hN h1 h2 k5 k6 k1 k3 k4
            go_enter Tryz.func49, Tryz.ntmps49
            go_wp2_with fail
            rw [← HW.out]
            go_wp2_with fail
            refine (HSG.out _).mono ?_
            rintro e w' ⟨rfl, rfl⟩
            go_wp2_with fail
            refine (HTX.out _).mono ?_
            rintro e w' ⟨rfl, rfl⟩
            go_wp2_with fail
            go_loopw [5, 6] (fun cv iv wr => ∃ (i : Nat) (c : Int), cv = .int .i64 c ∧ iv = .int .i64 (i : Int) ∧ i ≤ L ∧ i ≤ M ∧ Hid ((if c ≠ 0 then c else Val.rordAll (v.xs.drop i) (u.xs.drop i)) = R) ∧ Hid (Below W.heap.size W wr)) (fun _ iv _ => L - (intOf iv).toNat)
            case atStart => exact ⟨0, _, rfl, rfl, by omega, by omega, Lib.hid (by rw [if_pos H2.out, HS.out]), Lib.hid (Below.refl _ _)⟩
            case round =>
              obtain ⟨i, c, rfl, rfl, hi, hi2, HR, HB⟩ := hrel
              clear a0 a1 a2 a3 a4 a5 b0 b1 b2 b3 b4 b5
              have a5 := (HPV.out.below HB.out HPV.out.lt).cell 5
              have b5 := (HPU.out.below HB.out HPU.out.lt).cell 5
              simp only [List.getElem?_toArray, List.getElem?_cons_zero, List.getElem?_cons_succ] at a5 b5
              by_cases hc : c = 0
              · subst hc
                by_cases hlt : i < L ∧ i < M
                · obtain ⟨hlt1, hlt2⟩ := hlt
                  have hil1 : i < v.xs.length := by rw [← HL.out]; exact hlt1
                  have hil2 : i < u.xs.length := by rw [← HM.out]; exact hlt2
                  obtain ⟨xb, xo, rfl, hpx, hlc⟩ := HX5.out i hil1
                  obtain ⟨yb, yo, rfl, hpy, hlc2⟩ := HY5.out i hil2
                  rw [← HL.out] at hlc
                  rw [← HM.out] at hlc2
                  have hst := rordAll_step hil1 hil2
                  have hsz := HSZ.out (v.xs[i]'hil1) (by simp)
                  have hHR := HR.out
                  rw [if_neg (by simp), hst] at hHR
                  obtain ⟨x, hxx⟩ : ∃ x, x = v.xs[i]'hil1 := ⟨_, rfl⟩
                  obtain ⟨y, hyy⟩ : ∃ y, y = u.xs[i]'hil2 := ⟨_, rfl⟩
                  rw [← hxx] at hpx hHR hsz
                  rw [← hyy] at hpy hHR
                  have hk0 : (0 : Int) ≤ (i : Int) := by omega
                  have hk1 : (i : Int) < (L : Int) := by omega
                  have hk2 : (i : Int) < (M : Int) := by omega
                  have HPX := Lib.hid hpx; have HPY := Lib.hid hpy; have HHR := Lib.hid hHR; have HSZ2 := Lib.hid hsz
                  clear hpx hpy hHR hsz hst HR hxx hyy hil1 hil2
                  go_wp2_with fail
                  have hpx := HPX.out; have hpy := HPY.out; have hHR := HHR.out; have hsz := HSZ2.out
                  have hpx := hpx.below HB.out
                  have hpy := hpy.below HB.out
                  have x0 := hpx.c0; have x1 := hpx.c1; have x2 := hpx.c2; have x3 := hpx.c3; have x4 := hpx.c4; have x5 := hpx.c5
                  have y0 := hpy.c0; have y1 := hpy.c1; have y2 := hpy.c2; have y3 := hpy.c3; have y4 := hpy.c4; have y5 := hpy.c5
                  obtain ⟨s4, z4, g4⟩ := hpx.in.nslice
                  obtain ⟨s5, z5, g5⟩ := hpx.in.xslice
                  obtain ⟨s6, z6, g6⟩ := hpy.in.nslice
                  obtain ⟨s7, z7, g7⟩ := hpy.in.xslice
                  rw [g4] at x4
                  rw [g5] at x5
                  rw [g6] at y4
                  rw [g7] at y5
                  have hcc := HIH.out x y wr.drew hsz (in_drew hpx.in) (in_drew hpy.in)
                  unfold Val.agg at hcc
                  rw [g4, g5, g6, g7] at hcc
                  obtain ⟨q, hq⟩ : ∃ q, q = x.rord y := ⟨_, rfl⟩
                  rw [← hq] at hcc hHR
                  have HC2 := Lib.hid hcc; have HR2 := Lib.hid hHR
                  clear hpx hpy hcc hq g4 g5 g6 g7 hsz hHR HPX HPY HHR HSZ2
                  go_still_tail 10, (by kernel_rfl)
                  change wpList _ _ _ _ _ wr.drew
                  go_wp2_with fail
                  refine HC2.out.mono ?_
                  rintro e w1 ⟨rfl, hb1⟩
                  have HB1 := Lib.hid (HB.out.trans (((Below.refl _ _).drew.trans hb1).mono HB.out.size))
                  clear hb1 x0 x1 x2 x3 x4 x5 y0 y1 y2 y3 y4 y5 a5 b5 HC2
                  go_wp2
                  go_roundw
                  case rel => exact ⟨i + 1, q, rfl, by go_num, by omega, by omega, HR2, HB1⟩
                  case measure => simp [intOf]; omega
                · have hse := sign_any (L : Int) (M : Int) wr
                  have hHR := HR.out
                  rw [if_neg (by simp), rordAll_end (by rw [← HL.out]; exact hi) (by rw [← HM.out]; exact hi2) (by rw [← HL.out, ← HM.out]; omega), ← HL.out, ← HM.out] at hHR
                  rw [hHR] at hse
                  have HS := Lib.hid hse
                  clear hse HR hHR
                  by_cases h1 : i < L
                  · have h2 : ¬ i < M := by omega
                    have t1 : decide ((i : Int) < (M : Int)) = false := by simp; omega
                    have t1' : decide (i < M) = false := by simp; omega
                    clear hlt
                    go_wp2_with fail
                    refine HS.out.mono ?_
                    rintro e w' ⟨rfl, rfl⟩
                    go_wp2
                    go_ret
                    exact ⟨rfl, HBW.out.trans (HB.out.mono HBW.out.size)⟩
                  · have t1 : decide ((i : Int) < (L : Int)) = false := by simp; omega
                    have t1' : decide (i < L) = false := by simp; omega
                    clear hlt
                    go_wp2_with fail
                    refine HS.out.mono ?_
                    rintro e w' ⟨rfl, rfl⟩
                    go_wp2
                    go_ret
                    exact ⟨rfl, HBW.out.trans (HB.out.mono HBW.out.size)⟩
              · have HRC : Hid (R = c) := Lib.hid (by rw [← HR.out, if_pos hc])
                have j1 : (c == 0) = false := by simpa using hc
                clear hc HR
                by_cases h1 : i < L
                · by_cases h2 : i < M
                  · go_wp2
                    go_ret
                    exact ⟨by rw [HRC.out]; rfl, HBW.out.trans (HB.out.mono HBW.out.size)⟩
                  · have t1 : decide ((i : Int) < (M : Int)) = false := by simp; omega
                    have t1' : decide (i < M) = false := by simp; omega
                    go_wp2
                    go_ret
                    exact ⟨by rw [HRC.out]; rfl, HBW.out.trans (HB.out.mono HBW.out.size)⟩
                · have t1 : decide ((i : Int) < (L : Int)) = false := by simp; omega
                  have t1' : decide (i < L) = false := by simp; omega
                  go_wp2
                  go_ret
                  exact ⟨by rw [HRC.out]; rfl, HBW.out.trans (HB.out.mono HBW.out.size)⟩
        · have HS : Hid (R = sgnI v.n u.n) := Lib.hid (by rw [HE.out, HH.out]; simp [k5, k6, h1])
          obtain ⟨N, hN⟩ : ∃ N, N = sgnI v.n u.n := ⟨_, rfl⟩
          simp only [← hN] at HSG HS h1
          have j2 : (N == 0) = false := by simpa using h1
          have H2 := Lib.hid h1
          clear hN h1 k5 k6 k1 k3 k4
          go_enter Tryz.func49, Tryz.ntmps49
          go_wp2_with fail
          rw [← HW.out]
          go_wp2_with fail
          refine (HSG.out _).mono ?_
          rintro e w' ⟨rfl, rfl⟩
          go_wp2_with fail
          go_loopw [5, 6] (fun cv iv wr => ∃ (i : Nat) (c : Int), cv = .int .i64 c ∧ iv = .int .i64 (i : Int) ∧ i ≤ L ∧ i ≤ M ∧ Hid ((if c ≠ 0 then c else Val.rordAll (v.xs.drop i) (u.xs.drop i)) = R) ∧ Hid (Below W.heap.size W wr)) (fun _ iv _ => L - (intOf iv).toNat)
          case atStart => exact ⟨0, _, rfl, rfl, by omega, by omega, Lib.hid (by rw [if_pos H2.out, HS.out]), Lib.hid (Below.refl _ _)⟩
          case round =>
            obtain ⟨i, c, rfl, rfl, hi, hi2, HR, HB⟩ := hrel
            clear a0 a1 a2 a3 a4 a5 b0 b1 b2 b3 b4 b5
            have a5 := (HPV.out.below HB.out HPV.out.lt).cell 5
            have b5 := (HPU.out.below HB.out HPU.out.lt).cell 5
            simp only [List.getElem?_toArray, List.getElem?_cons_zero, List.getElem?_cons_succ] at a5 b5
            by_cases hc : c = 0
            · subst hc
              by_cases hlt : i < L ∧ i < M
              · obtain ⟨hlt1, hlt2⟩ := hlt
                have hil1 : i < v.xs.length := by rw [← HL.out]; exact hlt1
                have hil2 : i < u.xs.length := by rw [← HM.out]; exact hlt2
                obtain ⟨xb, xo, rfl, hpx, hlc⟩ := HX5.out i hil1
                obtain ⟨yb, yo, rfl, hpy, hlc2⟩ := HY5.out i hil2
                rw [← HL.out] at hlc
                rw [← HM.out] at hlc2
                have hst := rordAll_step hil1 hil2
                have hsz := HSZ.out (v.xs[i]'hil1) (by simp)
                have hHR := HR.out
                rw [if_neg (by simp), hst] at hHR
                obtain ⟨x, hxx⟩ : ∃ x, x = v.xs[i]'hil1 := ⟨_, rfl⟩
                obtain ⟨y, hyy⟩ : ∃ y, y = u.xs[i]'hil2 := ⟨_, rfl⟩
                rw [← hxx] at hpx hHR hsz
                rw [← hyy] at hpy hHR
                have hk0 : (0 : Int) ≤ (i : Int) := by omega
                have hk1 : (i : Int) < (L : Int) := by omega
                have hk2 : (i : Int) < (M : Int) := by omega
                have HPX := Lib.hid hpx; have HPY := Lib.hid hpy; have HHR := Lib.hid hHR; have HSZ2 := Lib.hid hsz
                clear hpx hpy hHR hsz hst HR hxx hyy hil1 hil2
                go_wp2_with fail
                have hpx := HPX.out; have hpy := HPY.out; have hHR := HHR.out; have hsz := HSZ2.out
                have hpx := hpx.below HB.out
                have hpy := hpy.below HB.out
                have x0 := hpx.c0; have x1 := hpx.c1; have x2 := hpx.c2; have x3 := hpx.c3; have x4 := hpx.c4; have x5 := hpx.c5
                have y0 := hpy.c0; have y1 := hpy.c1; have y2 := hpy.c2; have y3 := hpy.c3; have y4 := hpy.c4; have y5 := hpy.c5
                obtain ⟨s4, z4, g4⟩ := hpx.in.nslice
                obtain ⟨s5, z5, g5⟩ := hpx.in.xslice
                obtain ⟨s6, z6, g6⟩ := hpy.in.nslice
                obtain ⟨s7, z7, g7⟩ := hpy.in.xslice
                rw [g4] at x4
                rw [g5] at x5
                rw [g6] at y4
                rw [g7] at y5
                have hcc := HIH.out x y wr.drew hsz (in_drew hpx.in) (in_drew hpy.in)
                unfold Val.agg at hcc
                rw [g4, g5, g6, g7] at hcc
                obtain ⟨q, hq⟩ : ∃ q, q = x.rord y := ⟨_, rfl⟩
                rw [← hq] at hcc hHR
                have HC2 := Lib.hid hcc; have HR2 := Lib.hid hHR
                clear hpx hpy hcc hq g4 g5 g6 g7 hsz hHR HPX HPY HHR HSZ2
                go_still_tail 10, (by kernel_rfl)
                change wpList _ _ _ _ _ wr.drew
                go_wp2_with fail
                refine HC2.out.mono ?_
                rintro e w1 ⟨rfl, hb1⟩
                have HB1 := Lib.hid (HB.out.trans (((Below.refl _ _).drew.trans hb1).mono HB.out.size))
                clear hb1 x0 x1 x2 x3 x4 x5 y0 y1 y2 y3 y4 y5 a5 b5 HC2
                go_wp2
                go_roundw
                case rel => exact ⟨i + 1, q, rfl, by go_num, by omega, by omega, HR2, HB1⟩
                case measure => simp [intOf]; omega
              · have hse := sign_any (L : Int) (M : Int) wr
                have hHR := HR.out
                rw [if_neg (by simp), rordAll_end (by rw [← HL.out]; exact hi) (by rw [← HM.out]; exact hi2) (by rw [← HL.out, ← HM.out]; omega), ← HL.out, ← HM.out] at hHR
                rw [hHR] at hse
                have HS := Lib.hid hse
                clear hse HR hHR
                by_cases h1 : i < L
                · have h2 : ¬ i < M := by omega
                  have t1 : decide ((i : Int) < (M : Int)) = false := by simp; omega
                  have t1' : decide (i < M) = false := by simp; omega
                  clear hlt
                  go_wp2_with fail
                  refine HS.out.mono ?_
                  rintro e w' ⟨rfl, rfl⟩
                  go_wp2
                  go_ret
                  exact ⟨rfl, HBW.out.trans (HB.out.mono HBW.out.size)⟩
                · have t1 : decide ((i : Int) < (L : Int)) = false := by simp; omega
                  have t1' : decide (i < L) = false := by simp; omega
                  clear hlt
                  go_wp2_with fail
                  refine HS.out.mono ?_
                  rintro e w' ⟨rfl, rfl⟩
                  go_wp2
                  go_ret
                  exact ⟨rfl, HBW.out.trans (HB.out.mono HBW.out.size)⟩
            · have HRC : Hid (R = c) := Lib.hid (by rw [← HR.out, if_pos hc])
              have j1 : (c == 0) = false := by simpa using hc
              clear hc HR
              by_cases h1 : i < L
              · by_cases h2 : i < M
                · go_wp2
                  go_ret
                  exact ⟨by rw [HRC.out]; rfl, HBW.out.trans (HB.out.mono HBW.out.size)⟩
                · have t1 : decide ((i : Int) < (M : Int)) = false := by simp; omega
                  have t1' : decide (i < M) = false := by simp; omega
                  go_wp2
                  go_ret
                  exact ⟨by rw [HRC.out]; rfl, HBW.out.trans (HB.out.mono HBW.out.size)⟩
              · have t1 : decide ((i : Int) < (L : Int)) = false := by simp; omega
                have t1' : decide (i < L) = false := by simp; omega
                go_wp2
                go_ret
                exact ⟨by rw [HRC.out]; rfl, HBW.out.trans (HB.out.mono HBW.out.size)⟩
    · have HE : Hid (R = sgnI K J) := Lib.hid (by rw [HOE.out, if_pos hkj])
      have t0 : (K != J) = true := by simpa using hkj
      clear hkj
      go_enter Tryz.func49, Tryz.ntmps49
      go_wp2_with fail
      rw [← HW.out]
      go_wp2_with fail
      refine (sign_any K J _).mono ?_
      rintro e w' ⟨rfl, rfl⟩
      go_wp2
      go_ret
      exact ⟨by rw [HE.out]; rfl, HBW.out⟩
end Go.Proofs.YtaamihdibpioaaaGreat
