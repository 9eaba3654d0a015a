/- basculeref04.fits, Fits of any value and type (printed by wip/gen_reffits.py). -/
import Derived.Test.YtjpdbhhjlnmacaaGreatTvM10
import Derived.Test.YtjpdbhhjlnmacaaGreatTvM12
import Derived.Test.YtjpdbhhjlnmacaaGreatTvM13
import Derived.Test.YtjpdbhhjlnmacaaGreatTvM17
import Derived.Test.YtjpdbhhjlnmacaaGreatTvM45
import Derived.StillTailTactics
namespace Go.Proofs.YtjpdbhhjlnmacaaGreat
set_option linter.unusedVariables false
open Go.RowKit

mutual
/-- Is a value of a type? -/
def Val.fitsB : Val → Ty → Bool
  | .mk k _ _ _ _ ns _ xs, t => !(decide (k ≠ t.k) || decide (t.k = 7)) && (if k = 5 then Val.fits5 xs (t.xs.getD 0 Ty.zero) else if k = 6 then decide (ns = t.ns) && Val.fits6 xs t.xs else true)
def Val.fits5 : List Val → Ty → Bool
  | [], _ => true
  | x :: xs, t => x.fitsB t && Val.fits5 xs t
def Val.fits6 : List Val → List Ty → Bool
  | [], _ => true
  | _ :: _, [] => false
  | x :: xs, t :: ts => x.fitsB t && Val.fits6 xs ts
end
theorem Val.fitsB_eq (v : Val) (t : Ty) : v.fitsB t = (!(decide (v.k ≠ t.k) || decide (t.k = 7)) && (if v.k = 5 then Val.fits5 v.xs (t.xs.getD 0 Ty.zero) else if v.k = 6 then decide (v.ns = t.ns) && Val.fits6 v.xs t.xs else true)) := by
  cases v
  rw [Val.fitsB]
  rfl
theorem fits5_drop {xs : List Val} {t : Ty} {i : Nat} (h : i < xs.length) : Val.fits5 (xs.drop i) t = ((xs[i]'h).fitsB t && Val.fits5 (xs.drop (i + 1)) t) := by
  rw [List.drop_eq_getElem_cons h, Val.fits5]
theorem fits6_drop {xs : List Val} {ts : List Ty} {i : Nat} (h : i < xs.length) (h2 : i < ts.length) : Val.fits6 (xs.drop i) (ts.drop i) = ((xs[i]'h).fitsB (ts[i]'h2) && Val.fits6 (xs.drop (i + 1)) (ts.drop (i + 1))) := by
  rw [List.drop_eq_getElem_cons h, List.drop_eq_getElem_cons h2, Val.fits6]
theorem vright_items {v : Val} {d : Nat} (h : v.rightB d = true) (hk : v.k = 5 ∨ v.k = 6) : ∀ x, x ∈ v.xs → ∃ e, x.rightB e = true := by
  intro x hx
  rw [Val.rightB_eq] at h
  split at h
  · cases h
  rcases hk with hk | hk
  · rw [if_neg (by omega), if_neg (by omega), if_neg (by omega), if_neg (by omega), if_pos hk] at h
    simp only [Bool.and_eq_true] at h
    exact ⟨_, rightAll_mem h.2 x hx⟩
  · rw [if_neg (by omega), if_neg (by omega), if_neg (by omega), if_neg (by omega), if_neg (by omega), if_pos hk] at h
    simp only [Bool.and_eq_true] at h
    exact ⟨_, rightAll_mem h.2 x hx⟩
theorem vright_len6 {v : Val} {d : Nat} (h : v.rightB d = true) (hk : v.k = 6) : v.ns.length = v.xs.length := by
  rw [Val.rightB_eq] at h
  by_cases h12 : 12 < d
  · rw [if_pos h12] at h; cases h
  rw [if_neg h12, if_neg (by omega : ¬ v.k = 1), if_neg (by omega : ¬ v.k = 2), if_neg (by omega : ¬ v.k = 3), if_neg (by omega : ¬ v.k = 4), if_neg (by omega : ¬ v.k = 5), if_pos hk] at h
  simp only [Bool.and_eq_true, decide_eq_true_eq] at h
  exact h.1.1.1
theorem tright_len5 {t : Ty} (h : t.Rt) (hk : t.k = 5) : t.xs.length = 1 := by
  obtain ⟨d, h⟩ := h
  rw [Ty.rightB_eq] at h
  by_cases h12 : 12 < d
  · rw [if_pos h12] at h; cases h
  rw [if_neg h12, if_pos hk] at h
  simp only [Bool.and_eq_true, decide_eq_true_eq] at h
  exact h.1.2
theorem tright_len6 {t : Ty} (h : t.Rt) (hk : t.k = 6) : t.ns.length = t.xs.length := by
  obtain ⟨d, h⟩ := h
  rw [Ty.rightB_eq] at h
  by_cases h12 : 12 < d
  · rw [if_pos h12] at h; cases h
  rw [if_neg h12, if_neg (by omega : ¬ t.k = 5), if_pos hk] at h
  simp only [Bool.and_eq_true, decide_eq_true_eq] at h
  exact h.1.1
set_option maxHeartbeats 8000000 in
set_option maxRecDepth 100000 in
theorem fits_step (d : Nat) (ih : ∀ (v : Val) (t : Ty) (w : World), v.sz ≤ d → v.In w → t.In w → (∃ n, v.rightB n = true) → t.Rt → Calls Tryz.prog 44 #[v.agg, t.agg] w fun e w' => BoolBelow (v.fitsB t) w e w')
    (v : Val) (t : Ty) (w : World) (hd : v.sz ≤ d + 1) (hv : v.In w) (ht : t.In w) (hrv : ∃ n, v.rightB n = true) (hrt : t.Rt) : Calls Tryz.prog 44 #[v.agg, t.agg] w fun e w' => BoolBelow (v.fitsB t) w e w' := by
  obtain ⟨A, hA⟩ : ∃ A, A = w.heap.size := ⟨_, rfl⟩
  obtain ⟨W, hW⟩ : ∃ W, W = (w.alloc (.cells v.cells.toArray 26)).alloc (.cells t.cells.toArray 36) := ⟨_, rfl⟩
  have hBW : Below w.heap.size w W := by rw [hW]; exact ((Below.refl _ w).alloc (Nat.le_refl _) _).alloc (by simp) _
  have hpa : Blk W A 26 v.cells.toArray := by rw [hW, hA]; exact (Blk.new w 26 _).alloc _
  have hpb : Blk W (A + 1) 36 t.cells.toArray := by
    rw [hW, hA]
    have := Blk.new (w.alloc (.cells v.cells.toArray 26)) 36 t.cells.toArray
    rw [show (w.alloc (.cells v.cells.toArray 26)).heap.size = w.heap.size + 1 from by simp] at this
    exact this
  have hvW := hv.below hBW
  have htW := ht.below hBW
  have hrw := fun (W' : World) (h : Below W.heap.size W W') => rows_any (v.na.val v.ns.length) (t.na.val t.ns.length) v.ns t.ns W' (NamesAt.of (hvW.below h)) (TNamesAt.of (htW.below h)) hv.ok.2.2.2.2.1 ht.ok.2.1
  obtain ⟨p4, q4, e4⟩ := hvW.nslice
  obtain ⟨p5, q5, e5, hxa⟩ := items_at hvW
  obtain ⟨r4, t4, g4⟩ := htW.nslice
  obtain ⟨r5, t5, g5, hxb⟩ := titems_at htW
  have hal := hv.ok
  have hbl := ht.ok
  unfold Val.cells at hW hpa
  unfold Ty.cells at hW hpb
  unfold Val.agg Ty.agg
  rw [e4, e5] at hpa hW ⊢
  rw [g4, g5] at hpb hW ⊢
  rw [e4, g4] at hrw
  obtain ⟨L, hL⟩ : ∃ L, L = v.ns.length := ⟨_, rfl⟩
  obtain ⟨M, hM⟩ : ∃ M, M = v.xs.length := ⟨_, rfl⟩
  obtain ⟨L2, hL2⟩ : ∃ L2, L2 = t.ns.length := ⟨_, rfl⟩
  obtain ⟨M2, hM2⟩ : ∃ M2, M2 = t.xs.length := ⟨_, rfl⟩
  obtain ⟨K, hK⟩ : ∃ K, K = v.k := ⟨_, rfl⟩
  obtain ⟨K2, hK2⟩ : ∃ K2, K2 = t.k := ⟨_, rfl⟩
  have e := Val.fitsB_eq v t
  have h5 : K = 5 → K = K2 → M2 = 1 := fun h h' => by rw [hM2]; exact tright_len5 hrt (by omega)
  have h6 : K = 6 → K = K2 → v.ns = t.ns → M = M2 := fun h h' hn => by
    obtain ⟨n, hn'⟩ := hrv
    have h1 := vright_len6 hn' (by omega)
    have h2 := tright_len6 hrt (by omega)
    rw [hM, hM2, ← h1, ← h2, hn]
  have hxr : K = 5 ∨ K = 6 → ∀ x, x ∈ v.xs → ∃ e, x.rightB e = true := fun h => by
    obtain ⟨n, hn'⟩ := hrv
    exact vright_items hn' (by rw [← hK]; exact h)
  rw [← hL, ← hM, ← hK] at hpa hW ⊢
  rw [← hL2, ← hM2, ← hK2] at hpb hW ⊢
  rw [← hL, ← hL2] at hrw
  rw [← hK, ← hK2] at e
  have hm1 : M ≤ 1599289640354 := by rw [hM]; exact hal.2.2.2.2.2.1
  have a0 := hpa.cell 0; have a4 := hpa.cell 4; have a5 := hpa.cell 5
  have b0 := hpb.cell 0; have b1 := hpb.cell 1; have b2 := hpb.cell 2
  simp only [List.getElem?_toArray, List.getElem?_cons_zero, List.getElem?_cons_succ] at a0 a4 a5 b0 b1 b2
  have HW := Lib.hid hW; have HBW := Lib.hid hBW; have HPA := Lib.hid hpa; have HPB := Lib.hid hpb; have HXA := Lib.hid hxa; have HXB := Lib.hid hxb
  have HL := Lib.hid hL; have HM := Lib.hid hM; have HL2 := Lib.hid hL2; have HM2 := Lib.hid hM2; have HE := Lib.hid e; have HIH := Lib.hid ih; have HD := Lib.hid hd; have HA := Lib.hid hA
  have HVW := Lib.hid hvW; have HTI := Lib.hid htW; have HRW := Lib.hid hrw; have HK := Lib.hid hK; have HK2 := Lib.hid hK2; have H5 := Lib.hid h5; have H6 := Lib.hid h6; have HXR := Lib.hid hxr
  have HTR := Lib.hid (show ∀ x, x ∈ t.xs → x.Rt from fun x hx => hrt.item hx)
  have hA1 : A + 1 < W.heap.size := hpb.lt
  clear hW hBW hpa hpb hxa hxb hL hM hL2 hM2 hK hK2 e ih hd hA hvW htW hv ht e4 e5 g4 g5 hal hbl hrw h5 h6 hxr hrv hrt
  by_cases hk : K = K2
  case neg =>
    have HR : Hid (v.fitsB t = false) := Lib.hid (by rw [HE.out]; simp [hk])
    have j1 : (K != K2) = true := by simpa using hk
    clear hk
    go_enter Tryz.func44, Tryz.ntmps44
    go_wp2_with fail
    rw [← HW.out, ← HA.out]
    go_wp2_with fail
    go_ret
    exact ⟨by rw [HR.out]; rfl, HBW.out⟩
  have j1 : (K != K2) = false := by simpa using hk
  by_cases h7 : K2 = 7
  case pos =>
    have HR : Hid (v.fitsB t = false) := Lib.hid (by rw [HE.out]; simp [h7])
    have j2 : (K2 == 7) = true := by simpa using h7
    clear hk h7
    go_enter Tryz.func44, Tryz.ntmps44
    go_wp2_with fail
    rw [← HW.out, ← HA.out]
    go_wp2_with fail
    go_ret
    exact ⟨by rw [HR.out]; rfl, HBW.out⟩
  have j2 : (K2 == 7) = false := by simpa using h7
  by_cases h5 : K = 5
  case pos =>
    have HE2 : Hid (v.fitsB t = Val.fits5 v.xs (t.xs.getD 0 Ty.zero)) := Lib.hid (by rw [HE.out, if_pos h5]; simp [hk, h7])
    have HM2E := Lib.hid (H5.out h5 hk)
    have j3 : (K == 5) = true := by simpa using h5
    have j4 : (K == 6) = false := by simp; omega
    have HX5 := Lib.hid (HXR.out (.inl h5))
    have h0l : 0 < t.xs.length := by rw [← HM2.out, HM2E.out]; omega
    have HTD : Hid (∀ h : 0 < t.xs.length, t.xs.getD 0 Ty.zero = t.xs[0]'h) := Lib.hid (fun h => by simp [h])
    clear hk h7 h5
    clear h0l
    go_enter Tryz.func44, Tryz.ntmps44
    go_wp2_with fail
    rw [← HW.out, ← HA.out]
    go_wp2_with fail
    go_loopw [5] (fun iv wx => ∃ j : Nat, iv = .int .i64 (j : Int) ∧ j ≤ M ∧ Hid (Val.fits5 (v.xs.drop j) (t.xs.getD 0 Ty.zero) = v.fitsB t) ∧ Hid (Below W.heap.size W wx)) (fun iv _ => M - (intOf iv).toNat)
    case atStart => exact ⟨0, rfl, by omega, Lib.hid (by rw [HE2.out]; rfl), Lib.hid (Below.refl _ _)⟩
    case round =>
      obtain ⟨j, rfl, hj, HR, HB⟩ := hrel
      have hAw : A < W.heap.size := by omega
      have c0 : wr.cell? ⟨A, 0, none⟩ = some (.int .i64 K) := (HB.out.cell (p := ⟨A, 0, none⟩) hAw).trans a0
      have c2 : wr.cell? ⟨A, 5, none⟩ = some (.slice p5 M q5) := (HB.out.cell (p := ⟨A, 5, none⟩) hAw).trans a5
      have d2 : wr.cell? ⟨A + 1, 2, none⟩ = some (.slice r5 M2 t5) := (HB.out.cell (p := ⟨A + 1, 2, none⟩) hA1).trans b2
      by_cases hlt : j < M
      · have hjl1 : j < v.xs.length := by rw [← HM.out]; exact hlt
        have hjl2 : 0 < t.xs.length := by have := HM2E.out; rw [← HM2.out]; omega
        obtain ⟨xb, xo, rfl, hpx, hlc⟩ := HXA.out j hjl1
        obtain ⟨yb, yo, rfl, hpy, hlc2⟩ := HXB.out 0 hjl2
        rw [← HM.out] at hlc
        rw [← HM2.out] at hlc2
        have hdr := fits5_drop (t := t.xs.getD 0 Ty.zero) hjl1
        obtain ⟨x, hx⟩ : ∃ x, x = v.xs[j]'hjl1 := ⟨_, rfl⟩
        obtain ⟨y, hy⟩ : ∃ y, y = t.xs[0]'hjl2 := ⟨_, rfl⟩
        skip
        rw [← hx] at hpx hdr
        rw [← hy] at hpy
        have hxs : x.sz ≤ d := by
          have := Val.size_mem (v := v) (x := x) (by rw [hx]; simp)
          have := HD.out
          omega
        have hrx := HX5.out x (by rw [hx]; simp)
        have hry := HTR.out y (by rw [hy]; simp)
        have hpx2 := hpx.below HB.out
        have hpy2 := hpy.below HB.out
        have u0 := hpx2.c0; have u1 := hpx2.c1; have u2 := hpx2.c2; have u3 := hpx2.c3; have u4 := hpx2.c4; have u5 := hpx2.c5
        have v0 := hpy2.c0; have v1 := hpy2.c1; have v2 := hpy2.c2
        obtain ⟨k4, l4, f4⟩ := hpx2.in.nslice
        obtain ⟨k5, l5, f5⟩ := hpx2.in.xslice
        obtain ⟨m4, n4, h4⟩ := hpy2.in.nslice
        obtain ⟨m5, n5, h5⟩ := hpy2.in.xslice
        rw [f4] at u4; rw [f5] at u5; rw [h4] at v1; rw [h5] at v2
        have hcall := HIH.out x y wr.drew hxs (hpx2.in.drewN 1) (hpy2.in.drewN 1) hrx hry
        unfold Val.agg Ty.agg at hcall
        rw [f4, f5, h4, h5] at hcall
        have HC2 := Lib.hid hcall
        have HDR : Hid (v.fitsB t = (x.fitsB y && Val.fits5 (v.xs.drop (j + 1)) (t.xs.getD 0 Ty.zero))) := Lib.hid (by rw [← HR.out, hdr, show y = t.xs.getD 0 Ty.zero from by rw [HTD.out hjl2]; exact hy])
        have hk0 : (0 : Int) ≤ (j : Int) := by omega
        have hk1 : (j : Int) < (M : Int) := by omega
        have hk2 : (0 : Int) < (M2 : Int) := by have := HM2E.out; omega
        have hk3 : 0 < M2 := by have := HM2E.out; omega
        have hbx := hpx2.2.1
        have hby := hpy2.2.1
        simp only [Nat.zero_mul, Nat.add_zero] at v0 v1 v2
        clear hcall hpx hpy hpx2 hpy2 hx hy hdr hjl1 hjl2 HR f4 f5 h4 h5 hxs hrx hry
        cases hsb : x.fitsB y with
        | false =>
          rw [hsb] at HC2 HDR
          clear hsb
          go_wp2_with fail
          go_still_tail 9, (by kernel_rfl)
          change wpList _ _ _ _ _ wr.drew
          go_wp2_with fail
          refine HC2.out.mono ?_
          rintro e w6 ⟨rfl, hb6⟩
          have HB6 := Lib.hid (HBW.out.trans ((HB.out.drew.trans (hb6.mono HB.out.size)).mono HBW.out.size))
          clear hb6 HC2
          go_wp2
          go_ret
          exact ⟨by rw [HDR.out]; rfl, HB6.out⟩
        | true =>
          rw [hsb] at HC2 HDR
          clear hsb
          go_wp2_with fail
          go_still_tail 9, (by kernel_rfl)
          change wpList _ _ _ _ _ wr.drew
          go_wp2_with fail
          refine HC2.out.mono ?_
          rintro e w6 ⟨rfl, hb6⟩
          have HB6 := Lib.hid (HB.out.drew.trans (hb6.mono HB.out.size))
          clear hb6 HC2
          go_wp2
          go_roundw
          case rel => exact ⟨j + 1, by go_num, by omega, Lib.hid (by rw [HDR.out]; rfl), HB6⟩
          case measure => simp [intOf]; omega
      · obtain rfl : j = M := by omega
        have HR2 : Hid (v.fitsB t = true) := Lib.hid (by
          rw [← HR.out, List.drop_eq_nil_of_le (by rw [← HM.out]; exact Nat.le_refl _)]
          rfl)
        have t2 : decide ((j : Int) < (j : Int)) = false := by simp
        clear HR hlt
        go_wp2
        go_ret
        exact ⟨by rw [HR2.out]; rfl, HBW.out.trans (HB.out.mono HBW.out.size)⟩
  by_cases h6 : K = 6
  case pos =>
    have j3 : (K == 5) = false := by simpa using h5
    have j4 : (K == 6) = true := by simpa using h6
    have HX5 := Lib.hid (HXR.out (.inr h6))
    by_cases hn : v.ns = t.ns
    case neg =>
      have HR : Hid (v.fitsB t = false) := Lib.hid (by rw [HE.out, if_neg h5, if_pos h6]; simp [hn])
      have HC := Lib.hid (HRW.out W (Below.refl _ _))
      have hnz : (ncmp v.ns t.ns != 0) = true := by
        have : ncmp v.ns t.ns ≠ 0 := fun h => hn (ncmp_zero.1 h)
        simpa using this
      clear hk h7 h5 h6 hn
      go_enter Tryz.func44, Tryz.ntmps44
      go_wp2_with fail
      rw [← HW.out, ← HA.out]
      go_wp2_with fail
      refine HC.out.mono ?_
      rintro e w1 ⟨rfl, n, rfl⟩
      go_wp2_with fail
      go_ret
      exact ⟨by rw [HR.out]; rfl, below_drewN HBW.out _⟩
    have HE2 : Hid (v.fitsB t = Val.fits6 v.xs t.xs) := Lib.hid (by rw [HE.out, if_neg h5, if_pos h6]; simp [hn, hk, h7])
    have HM2E := Lib.hid (H6.out h6 hk hn)
    have hc := HRW.out W (Below.refl _ _)
    rw [ncmp_zero.2 hn] at hc
    have HC := Lib.hid hc
    clear hk h7 h5 h6 hn hc
    go_enter Tryz.func44, Tryz.ntmps44
    go_wp2_with fail
    rw [← HW.out, ← HA.out]
    go_wp2_with fail
    refine HC.out.mono ?_
    rintro e w1 ⟨rfl, n, rfl⟩
    obtain ⟨W1, hW1⟩ : ∃ W1, W1 = W.drewN n := ⟨_, rfl⟩
    rw [← hW1]
    have HB1 : Hid (Below W.heap.size W W1) := Lib.hid (by rw [hW1]; exact below_drewN (Below.refl _ W) _)
    have a0' : W1.cell? ⟨A, 0, none⟩ = some (.int .i64 K) := by rw [hW1]; exact a0
    clear hW1
    go_wp2_with fail
    go_loopw [6] (fun iv wx => ∃ j : Nat, iv = .int .i64 (j : Int) ∧ j ≤ M ∧ Hid (Val.fits6 (v.xs.drop j) (t.xs.drop j) = v.fitsB t) ∧ Hid (Below W.heap.size W wx)) (fun iv _ => M - (intOf iv).toNat)
    case atStart => exact ⟨0, rfl, by omega, Lib.hid (by rw [HE2.out]; rfl), HB1⟩
    case round =>
      obtain ⟨j, rfl, hj, HR, HB⟩ := hrel
      have hAw : A < W.heap.size := by omega
      have c0 : wr.cell? ⟨A, 0, none⟩ = some (.int .i64 K) := (HB.out.cell (p := ⟨A, 0, none⟩) hAw).trans a0
      have c2 : wr.cell? ⟨A, 5, none⟩ = some (.slice p5 M q5) := (HB.out.cell (p := ⟨A, 5, none⟩) hAw).trans a5
      have d2 : wr.cell? ⟨A + 1, 2, none⟩ = some (.slice r5 M2 t5) := (HB.out.cell (p := ⟨A + 1, 2, none⟩) hA1).trans b2
      by_cases hlt : j < M
      · have hjl1 : j < v.xs.length := by rw [← HM.out]; exact hlt
        have hjl2 : j < t.xs.length := by have := HM2E.out; rw [← HM2.out]; omega
        obtain ⟨xb, xo, rfl, hpx, hlc⟩ := HXA.out j hjl1
        obtain ⟨yb, yo, rfl, hpy, hlc2⟩ := HXB.out j hjl2
        rw [← HM.out] at hlc
        rw [← HM2.out] at hlc2
        have hdr := fits6_drop hjl1 hjl2
        obtain ⟨x, hx⟩ : ∃ x, x = v.xs[j]'hjl1 := ⟨_, rfl⟩
        obtain ⟨y, hy⟩ : ∃ y, y = t.xs[j]'hjl2 := ⟨_, rfl⟩
        skip
        rw [← hx] at hpx hdr
        rw [← hy] at hpy hdr
        have hxs : x.sz ≤ d := by
          have := Val.size_mem (v := v) (x := x) (by rw [hx]; simp)
          have := HD.out
          omega
        have hrx := HX5.out x (by rw [hx]; simp)
        have hry := HTR.out y (by rw [hy]; simp)
        have hpx2 := hpx.below HB.out
        have hpy2 := hpy.below HB.out
        have u0 := hpx2.c0; have u1 := hpx2.c1; have u2 := hpx2.c2; have u3 := hpx2.c3; have u4 := hpx2.c4; have u5 := hpx2.c5
        have v0 := hpy2.c0; have v1 := hpy2.c1; have v2 := hpy2.c2
        obtain ⟨k4, l4, f4⟩ := hpx2.in.nslice
        obtain ⟨k5, l5, f5⟩ := hpx2.in.xslice
        obtain ⟨m4, n4, h4⟩ := hpy2.in.nslice
        obtain ⟨m5, n5, h5⟩ := hpy2.in.xslice
        rw [f4] at u4; rw [f5] at u5; rw [h4] at v1; rw [h5] at v2
        have hcall := HIH.out x y wr.drew hxs (hpx2.in.drewN 1) (hpy2.in.drewN 1) hrx hry
        unfold Val.agg Ty.agg at hcall
        rw [f4, f5, h4, h5] at hcall
        have HC2 := Lib.hid hcall
        have HDR : Hid (v.fitsB t = (x.fitsB y && Val.fits6 (v.xs.drop (j + 1)) (t.xs.drop (j + 1)))) := Lib.hid (by rw [← HR.out, hdr])
        have hk0 : (0 : Int) ≤ (j : Int) := by omega
        have hk1 : (j : Int) < (M : Int) := by omega
        have hk2 : (j : Int) < (M2 : Int) := by have := HM2E.out; omega
        have hk3 : j < M2 := by have := HM2E.out; omega
        have hbx := hpx2.2.1
        have hby := hpy2.2.1
        skip
        clear hcall hpx hpy hpx2 hpy2 hx hy hdr hjl1 hjl2 HR f4 f5 h4 h5 hxs hrx hry
        cases hsb : x.fitsB y with
        | false =>
          rw [hsb] at HC2 HDR
          clear hsb
          go_wp2_with fail
          go_still_tail 10, (by kernel_rfl)
          change wpList _ _ _ _ _ wr.drew
          go_wp2_with fail
          refine HC2.out.mono ?_
          rintro e w6 ⟨rfl, hb6⟩
          have HB6 := Lib.hid (HBW.out.trans ((HB.out.drew.trans (hb6.mono HB.out.size)).mono HBW.out.size))
          clear hb6 HC2
          go_wp2
          go_ret
          exact ⟨by rw [HDR.out]; rfl, HB6.out⟩
        | true =>
          rw [hsb] at HC2 HDR
          clear hsb
          go_wp2_with fail
          go_still_tail 10, (by kernel_rfl)
          change wpList _ _ _ _ _ wr.drew
          go_wp2_with fail
          refine HC2.out.mono ?_
          rintro e w6 ⟨rfl, hb6⟩
          have HB6 := Lib.hid (HB.out.drew.trans (hb6.mono HB.out.size))
          clear hb6 HC2
          go_wp2
          go_roundw
          case rel => exact ⟨j + 1, by go_num, by omega, Lib.hid (by rw [HDR.out]; rfl), HB6⟩
          case measure => simp [intOf]; omega
      · obtain rfl : j = M := by omega
        have HR2 : Hid (v.fitsB t = true) := Lib.hid (by
          rw [← HR.out, List.drop_eq_nil_of_le (by rw [← HM.out]; exact Nat.le_refl _)]
          rfl)
        have t2 : decide ((j : Int) < (j : Int)) = false := by simp
        clear HR hlt
        go_wp2
        go_ret
        exact ⟨by rw [HR2.out]; rfl, HBW.out.trans (HB.out.mono HBW.out.size)⟩
  have HR : Hid (v.fitsB t = true) := Lib.hid (by rw [HE.out, if_neg h5, if_neg h6]; simp [hk, h7])
  have j3 : (K == 5) = false := by simpa using h5
  have j4 : (K == 6) = false := by simpa using h6
  clear hk h7 h5 h6
  go_enter Tryz.func44, Tryz.ntmps44
  go_wp2_with fail
  rw [← HW.out, ← HA.out]
  go_wp2_with fail
  go_ret
  exact ⟨by rw [HR.out]; rfl, HBW.out⟩
theorem fits_any : ∀ (d : Nat) (v : Val) (t : Ty) (w : World), v.sz ≤ d → v.In w → t.In w → (∃ n, v.rightB n = true) → t.Rt → Calls Tryz.prog 44 #[v.agg, t.agg] w fun e w' => BoolBelow (v.fitsB t) w e w' := by
  intro d
  induction d with
  | zero => intro v t w hd; rw [Val.sz_eq] at hd; omega
  | succ d ih => exact fun v t w hd hv ht h1 h2 => fits_step d ih v t w hd hv ht h1 h2
end Go.Proofs.YtjpdbhhjlnmacaaGreat
