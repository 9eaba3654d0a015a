/- value.Order and value.Same of any two values, the first one's kinds being values' kinds. -/
import Derived.Test.YtemhinagajfemaaConeM34
namespace Go.Proofs.Ytemhinagajfemaa
set_option linter.unusedVariables false
open Go.RowKit

set_option maxHeartbeats 4000000 in
set_option maxRecDepth 100000 in
theorem ord_val : ∀ (d : Nat) (v u : Val) (w : World), v.sz ≤ d → v.In w → u.In w → v.Kinds → Calls Try.prog 99 #[v.agg, u.agg] w fun e w' => IntBelow (v.ord u) w e w'
  | 0, v, u, w, hd, _, _, _ => by rw [Val.sz_eq] at hd; omega
  | d + 1, v, u, w, hd, hv, hu, hk => by
    obtain ⟨W, hW⟩ : ∃ W, W = (w.alloc (.cells #[.int .i64 v.k, .int .i64 v.n, .float .f64 v.f, .string v.s, v.na.val v.ns.length, v.xa.val v.xs.length] 46)).alloc (.cells #[.int .i64 u.k, .int .i64 u.n, .float .f64 u.f, .string u.s, u.na.val u.ns.length, u.xa.val u.xs.length] 46) := ⟨_, rfl⟩
    have hbW : Below w.heap.size w W := by rw [hW]; exact ((Below.refl _ _).alloc (Nat.le_refl _) _).alloc (by simp) _
    have hpv : PVal W w.heap.size 0 v := by
      rw [hW]
      exact (PVal.new w v 46 hv).below ((Below.refl _ _).alloc (Nat.le_refl _) _)
    have hpu : PVal W (w.heap.size + 1) 0 u := by
      rw [hW]
      have := PVal.new (w.alloc (.cells #[.int .i64 v.k, .int .i64 v.n, .float .f64 v.f, .string v.s, v.na.val v.ns.length, v.xa.val v.xs.length] 46)) u 46 (hu.below ((Below.refl _ _).alloc (Nat.le_refl _) _))
      rw [show (w.alloc (.cells #[.int .i64 v.k, .int .i64 v.n, .float .f64 v.f, .string v.s, v.na.val v.ns.length, v.xa.val v.xs.length] 46)).heap.size = w.heap.size + 1 from by simp] at this
      exact this
    have hk2 := (Val.kinds_iff v).1 hk
    have hrow := fun (n : Nat) => row_any v u w.heap.size 0 (w.heap.size + 1) 0 (W.drewN n) (hpv.drewN n) (hpu.drewN n) hk2.1
    have hrow0 := row_any v u w.heap.size 0 (w.heap.size + 1) 0 W hpv hpu hk2.1
    have hcf := fun (n : Nat) => cfun_any v u (W.drewN n) (hpv.in.drewN n) (hpu.in.drewN n) (fun x y w hx h1 h2 => ord_val d x y w (by have := Val.size_mem hx; omega) h1 h2 (hk2.2 x hx))
    have hoe := Val.ord_eq v u
    have c0 := hpv.c0; have c5 := hpv.c5; have d0 := hpu.c0; have d5 := hpu.c5
    simp only [Nat.zero_add] at c5 d5
    obtain ⟨K, hK⟩ : ∃ K, K = v.k := ⟨_, rfl⟩
    obtain ⟨r, hr⟩ : ∃ r, r = v.row u := ⟨_, rfl⟩
    obtain ⟨q, hq⟩ : ∃ q, q = Val.ordAll v.xs u.xs := ⟨_, rfl⟩
    obtain ⟨g, hg⟩ : ∃ g, g = sgnI v.k u.k := ⟨_, rfl⟩
    have hcm := fun (W : World) => cmp_int v.k u.k W
    rw [← hg] at hoe
    simp only [← hg] at hcm
    rw [← hr, ← hq, ← hK] at hoe
    rw [← hr] at hrow0
    simp only [← hq] at hcf
    have HOE := Lib.hid hoe; have HROW := Lib.hid hrow0; have HCF := Lib.hid hcf; have HCM := Lib.hid hcm; have HW := Lib.hid hW; have HBW := Lib.hid hbW
    have HK := Lib.hid hK
    clear hoe hrow hrow0 hcf hcm hW hbW hK hr hq hg hpv hpu hk hk2 hv hu
    unfold Val.agg
    by_cases h0 : g = 0
    · subst h0
      by_cases h1 : r = 0
      · subst h1
        cases hl : leafB K with
        | true =>
          have HE : Hid (v.ord u = 0) := Lib.hid (by rw [HOE.out, if_neg (by simp), if_pos (.inr hl)])
          have HLF := Lib.hid (fun W : World => leaf_any v.k W)
          rw [← HK.out, hl] at HLF
          clear hl HOE HCF
          go_enter Try.func99, Try.ntmps99
          go_wp2_with fail
          rw [← HW.out]
          refine (HCM.out _).mono ?_
          rintro e w' ⟨rfl, rfl⟩
          go_wp2_with fail
          refine HROW.out.mono ?_
          rintro e w' ⟨rfl, n, rfl⟩
          rw [← HK.out] at c0
          go_wp2_with fail
          refine (HLF.out _).mono ?_
          rintro e w' ⟨rfl, rfl⟩
          go_wp2
          go_ret
          exact ⟨by rw [HE.out]; rfl, below_drewN HBW.out n⟩
        | false =>
          have HE : Hid (v.ord u = q) := Lib.hid (by rw [HOE.out, if_neg (by simp), if_neg (by simp [hl])])
          have HLF := Lib.hid (fun W : World => leaf_any v.k W)
          rw [← HK.out, hl] at HLF
          clear hl HOE
          go_enter Try.func99, Try.ntmps99
          go_wp2_with fail
          rw [← HW.out]
          refine (HCM.out _).mono ?_
          rintro e w' ⟨rfl, rfl⟩
          go_wp2_with fail
          refine HROW.out.mono ?_
          rintro e w' ⟨rfl, n, rfl⟩
          rw [← HK.out] at c0
          go_wp2_with fail
          refine (HLF.out _).mono ?_
          rintro e w' ⟨rfl, rfl⟩
          go_wp2_with fail
          refine (HCF.out n).mono ?_
          rintro e w6 ⟨rfl, hb6⟩
          have HB6 := Lib.hid (HBW.out.trans ((below_drewN (Below.refl W.heap.size W) n).trans hb6 |>.mono HBW.out.size))
          clear hb6
          go_wp2
          go_ret
          exact ⟨by rw [HE.out]; rfl, HB6.out⟩
      · have HE : Hid (v.ord u = r) := Lib.hid (by rw [HOE.out, if_neg (by simp), if_pos (.inl h1)])
        have i1 : (r != 0) = true := by simpa using h1
        have i2 : (r == 0) = false := by simpa using h1
        clear h1 HOE HCF
        go_enter Try.func99, Try.ntmps99
        go_wp2_with fail
        rw [← HW.out]
        refine (HCM.out _).mono ?_
        rintro e w' ⟨rfl, rfl⟩
        go_wp2_with fail
        refine HROW.out.mono ?_
        rintro e w' ⟨rfl, n, rfl⟩
        go_wp2
        go_ret
        exact ⟨by rw [HE.out]; rfl, below_drewN HBW.out n⟩
    · have HE : Hid (v.ord u = g) := Lib.hid (by rw [HOE.out, if_pos h0])
      have i1 : (g != 0) = true := by simpa using h0
      have i2 : (g == 0) = false := by simpa using h0
      clear h0 HOE HCF
      go_enter Try.func99, Try.ntmps99
      go_wp2_with fail
      rw [← HW.out]
      refine (HCM.out _).mono ?_
      rintro e w' ⟨rfl, rfl⟩
      go_wp2
      go_ret
      exact ⟨by rw [HE.out]; rfl, HBW.out⟩

/-- Are two values the same? -/
def Val.same (v u : Val) : Bool := decide (v.ord u = 0)
set_option maxHeartbeats 1000000 in
theorem same_any (v u : Val) (w : World) (hv : v.In w) (hu : u.In w) (hk : v.Kinds) : Calls Try.prog 67 #[v.agg, u.agg] w fun e w' => BoolBelow (v.same u) w e w' := by
  obtain ⟨W, hW⟩ : ∃ W, W = (w.alloc (.cells #[.int .i64 v.k, .int .i64 v.n, .float .f64 v.f, .string v.s, v.na.val v.ns.length, v.xa.val v.xs.length] 46)).alloc (.cells #[.int .i64 u.k, .int .i64 u.n, .float .f64 u.f, .string u.s, u.na.val u.ns.length, u.xa.val u.xs.length] 46) := ⟨_, rfl⟩
  have hbW : Below w.heap.size w W := by rw [hW]; exact ((Below.refl _ _).alloc (Nat.le_refl _) _).alloc (by simp) _
  have ho := ord_val v.sz v u W (Nat.le_refl _) (hv.below hbW) (hu.below hbW) hk
  have hs : v.same u = (v.ord u == 0) := by unfold Val.same; by_cases h : v.ord u = 0 <;> simp [h]
  obtain ⟨c, hc⟩ : ∃ c, c = v.ord u := ⟨_, rfl⟩
  rw [← hc] at ho hs
  have HW := Lib.hid hW; have HB := Lib.hid hbW; have HO := Lib.hid ho; have HS := Lib.hid hs
  clear hW hbW ho hs hc hv hu hk
  unfold Val.agg
  go_enter Try.func67, Try.ntmps67
  go_wp2_with fail
  rw [← HW.out]
  refine HO.out.mono ?_
  rintro e w' ⟨rfl, hl⟩
  have HL := Lib.hid (HB.out.trans (hl.mono HB.out.size))
  clear hl
  go_wp2
  go_ret
  exact ⟨by rw [HS.out]; rfl, HL.out⟩
end Go.Proofs.Ytemhinagajfemaa
