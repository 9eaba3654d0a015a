/- The document's answers on types: how many parts, how deep, how small (printed by wip/gen_ty2.py from XRefSmall). -/
import Derived.Test.YtjpdbhhjlnmacaaGreatTcM6
import Derived.Test.YtjpdbhhjlnmacaaGreatTcM7
import Derived.Test.YtjpdbhhjlnmacaaGreatTcM10
namespace Go.Proofs.YtjpdbhhjlnmacaaGreat
set_option linter.unusedVariables false
open Go.RowKit

mutual
/-- How deep, looked at so far. -/
def Ty.depth : Ty → Nat → Nat
  | .mk _ _ _ _ xs, far => Ty.depthAll xs far + 1
def Ty.depthAll : List Ty → Nat → Nat
  | [], _ => 0
  | x :: xs, far => if far = 0 then 0 else max (x.depth (far - 1)) (Ty.depthAll xs far)
end
theorem Ty.depth_eq (v : Ty) (far : Nat) : v.depth far = Ty.depthAll v.xs far + 1 := by cases v; simp [Ty.depth, Ty.xs]
theorem Ty.depthAll_0 (xs : List Ty) : Ty.depthAll xs 0 = 0 := by cases xs <;> simp [Ty.depthAll]
theorem Ty.depth_le : ∀ (far : Nat) (v : Ty), v.depth far ≤ far + 1
  | 0, v => by rw [Ty.depth_eq, Ty.depthAll_0]; exact Nat.le_refl _
  | far + 1, v => by
    rw [Ty.depth_eq]
    have : ∀ xs : List Ty, Ty.depthAll xs (far + 1) ≤ far + 1 := fun xs => by
      induction xs with
      | nil => simp [Ty.depthAll]
      | cons x xs ih =>
        simp only [Ty.depthAll, Nat.add_sub_cancel]
        rw [if_neg (by omega)]
        have := Ty.depth_le far x
        omega
    have := this v.xs
    omega

set_option maxHeartbeats 1000000 in
set_option maxRecDepth 100000 in
theorem rtcount_any : ∀ (d : Nat) (v : Ty) (n : Nat) (w : World), v.sz ≤ d → n < 500 → v.In w →
    Calls Tryz.prog 58 #[v.agg, .int .i64 n] w fun e w' => IntBelow ((v.count n : Nat) : Int) w e w'
  | 0, v, n, w, hd, _, _ => by rw [Ty.sz_eq] at hd; omega
  | d + 1, v, n, w, hd, hn, h => by
    obtain ⟨W, hW⟩ : ∃ W, W = w.alloc (.cells v.cells.toArray 36) := ⟨_, rfl⟩
    have hBW : Below w.heap.size w W := by rw [hW]; exact (Below.refl _ w).alloc (Nat.le_refl _) _
    have hb0 : Blk W w.heap.size 36 v.cells.toArray := by rw [hW]; exact Blk.new w 36 _
    obtain ⟨p, c, e5, hx⟩ := titems_at (h.below hBW)
    obtain ⟨L, hL⟩ : ∃ L, L = v.xs.length := ⟨_, rfl⟩
    obtain ⟨p4, q4, e4⟩ := h.nslice
    have hxl := h.ok.2.2.1
    have hcw := Ty.count_le v.sz v n (Nat.le_refl _) hn
    unfold Ty.cells at hW hb0
    rw [e4, e5, ← hL] at hW hb0
    rw [← hL] at hxl
    unfold Ty.agg
    rw [e4, e5, ← hL]
    have HX := Lib.hid hx; have HL := Lib.hid hL; have HW := Lib.hid hW; have HBW := Lib.hid hBW; have HB0 := Lib.hid hb0; have HC := Lib.hid (Ty.count_eq v n)
    have HM := Lib.hid (show ∀ x, x ∈ v.xs → x.sz ≤ d from fun x hx => by have := Ty.size_mem hx; omega)
    obtain ⟨hcw1, hcw2⟩ := hcw
    obtain ⟨cn, hcn⟩ : ∃ cn, cn = v.count n := ⟨_, rfl⟩
    rw [← hcn] at HC hcw1 hcw2 ⊢
    clear hx hL hW hBW hb0 e4 e5 h hd hcn
    go_enter Tryz.func58, Tryz.ntmps58
    go_wp2_with fail
    rw [← HW.out]
    go_loopw [1, 5] (fun nv iv wr => ∃ i m : Nat, nv = .int .i64 (m : Int) ∧ iv = .int .i64 (i : Int) ∧ i ≤ L ∧ m ≤ 500 ∧ Hid (Ty.countAll (v.xs.drop i) m = cn) ∧ Hid (Below W.heap.size W wr)) (fun _ iv _ => L - (intOf iv).toNat)
    case atStart => exact ⟨0, n + 1, by simp, rfl, by omega, by omega, Lib.hid (by rw [HC.out]; rfl), Lib.hid (Below.refl _ _)⟩
    case round =>
      obtain ⟨i, m, rfl, rfl, hi, hm, HR, HB⟩ := hrel
      have hz := HB0.out.lt
      have c5 := (HB0.out.below HB.out hz).cell 2
      simp only [List.getElem?_toArray, List.getElem?_cons_zero, List.getElem?_cons_succ] at c5
      clear hz
      by_cases hlt : i < L
      · have hil : i < v.xs.length := by rw [← HL.out]; exact hlt
        by_cases h500 : 500 ≤ m
        · have HE : Hid (cn = m) := Lib.hid (by rw [← HR.out, Ty.countAll_ge h500])
          have hge : decide ((m : Int) < 500) = false := by simp; omega
          clear hil
          go_wp2_with fail
          go_ret
          exact ⟨by rw [HE.out]; rfl, HBW.out.trans (HB.out.mono HBW.out.size)⟩
        · have hlt5 : decide ((m : Int) < 500) = true := by simp; omega
          obtain ⟨xb, xo, rfl, hpx, hlc⟩ := HX.out i hil
          rw [← HL.out] at hlc
          obtain ⟨x, hxx⟩ : ∃ x, x = v.xs[i]'hil := ⟨_, rfl⟩
          have hcl := Ty.count_le d (v.xs[i]'hil) m (HM.out _ (by simp)) (by omega)
          have HR2 : Hid (Ty.countAll (v.xs.drop (i + 1)) ((v.xs[i]'hil).count m) = cn) := Lib.hid (by
            rw [← HR.out, drop_cons hil]; simp [Ty.countAll, h500])
          have hsz := HM.out (v.xs[i]'hil) (by simp)
          rw [← hxx] at hpx hcl HR2 hsz
          have hpw := hpx.below HB.out
          have d0 := hpw.c0; have d4 := hpw.c1; have d5 := hpw.c2
          obtain ⟨r4, t4, g4⟩ := hpw.in.nslice
          obtain ⟨r5, t5, g5⟩ := hpw.in.xslice
          rw [g4] at d4
          rw [g5] at d5
          have hc := rtcount_any d x m wr hsz (by omega) hpw.in
          unfold Ty.agg at hc
          rw [g4, g5] at hc
          obtain ⟨q, hq⟩ : ∃ q, q = x.count m := ⟨_, rfl⟩
          rw [← hq] at hc hcl HR2
          obtain ⟨hcl1, hcl2⟩ := hcl
          have HC2 := Lib.hid hc
          have hk0 : (0 : Int) ≤ (i : Int) := by omega
          have hk1 : (i : Int) < (L : Int) := by omega
          clear hil hpx hpw hc hq hxx g4 g5 hsz
          go_wp2_with fail
          refine HC2.out.mono ?_
          rintro e w1 ⟨rfl, hb1⟩
          have HB1 := Lib.hid (HB.out.trans (hb1.mono HB.out.size))
          clear hb1 d0 d4 d5 c5 HC2
          go_wp2
          go_roundw
          case rel => exact ⟨i + 1, q, rfl, by go_num, by omega, by omega, HR2, HB1⟩
          case measure => simp [intOf]; omega
      · have HE : Hid (cn = m) := Lib.hid (by rw [← HR.out, List.drop_eq_nil_of_le (by rw [← HL.out]; omega)]; simp [Ty.countAll])
        go_wp2_with fail
        go_ret
        exact ⟨by rw [HE.out]; rfl, HBW.out.trans (HB.out.mono HBW.out.size)⟩

theorem rtparts_any (v : Ty) (w : World) (h : v.In w) : Calls Tryz.prog 38 #[v.agg] w fun e w' => IntBelow ((v.count 0 : Nat) : Int) w e w' := by
  obtain ⟨W, hW⟩ : ∃ W, W = w.alloc (.cells v.cells.toArray 36) := ⟨_, rfl⟩
  have hBW : Below w.heap.size w W := by rw [hW]; exact (Below.refl _ w).alloc (Nat.le_refl _) _
  obtain ⟨p4, q4, e4⟩ := h.nslice
  obtain ⟨p5, q5, e5⟩ := h.xslice
  have hc := rtcount_any v.sz v 0 W (Nat.le_refl _) (by omega) (h.below hBW)
  unfold Ty.cells at hW
  unfold Ty.agg at hc ⊢
  rw [e4, e5] at hW hc ⊢
  have HW := Lib.hid hW; have HBW := Lib.hid hBW; have HC := Lib.hid hc
  clear hW hBW hc e4 e5 h
  go_enter Tryz.func38, Tryz.ntmps38
  go_wp2_with fail
  rw [← HW.out]
  refine HC.out.mono ?_
  rintro e w1 ⟨rfl, hb1⟩
  have HB1 := Lib.hid (HBW.out.trans (hb1.mono HBW.out.size))
  clear hb1
  go_wp2
  go_ret
  exact ⟨rfl, HB1.out⟩

set_option maxHeartbeats 1000000 in
set_option maxRecDepth 100000 in
theorem tdepth_any : ∀ (d : Nat) (v : Ty) (far : Nat) (w : World), v.sz ≤ d → far ≤ 40 → v.In w →
    Calls Tryz.prog 37 #[v.agg, .int .i64 far] w fun e w' => IntBelow ((v.depth far : Nat) : Int) w e w'
  | 0, v, far, w, hd, _, _ => by rw [Ty.sz_eq] at hd; omega
  | d + 1, v, far, w, hd, hfar, h => by
    obtain ⟨W, hW⟩ : ∃ W, W = w.alloc (.cells v.cells.toArray 36) := ⟨_, rfl⟩
    have hBW : Below w.heap.size w W := by rw [hW]; exact (Below.refl _ w).alloc (Nat.le_refl _) _
    have hb0 : Blk W w.heap.size 36 v.cells.toArray := by rw [hW]; exact Blk.new w 36 _
    obtain ⟨p, c, e5, hx⟩ := titems_at (h.below hBW)
    obtain ⟨L, hL⟩ : ∃ L, L = v.xs.length := ⟨_, rfl⟩
    obtain ⟨p4, q4, e4⟩ := h.nslice
    have hxl := h.ok.2.2.1
    unfold Ty.cells at hW hb0
    rw [e4, e5, ← hL] at hW hb0
    rw [← hL] at hxl
    unfold Ty.agg
    rw [e4, e5, ← hL]
    have hdl := Ty.depth_le far v
    have hde := Ty.depth_eq v far
    obtain ⟨D, hD⟩ : ∃ D, D = Ty.depthAll v.xs far := ⟨_, rfl⟩
    rw [← hD] at hde
    rw [hde] at hdl ⊢
    have HX := Lib.hid hx; have HL := Lib.hid hL; have HW := Lib.hid hW; have HBW := Lib.hid hBW; have HB0 := Lib.hid hb0; have HD := Lib.hid hD
    have HM := Lib.hid (show ∀ x, x ∈ v.xs → x.sz ≤ d from fun x hx => by have := Ty.size_mem hx; omega)
    clear hx hL hW hBW hb0 e4 e5 h hd hD hde
    go_enter Tryz.func37, Tryz.ntmps37
    go_wp2_with fail
    rw [← HW.out]
    go_loopw [5, 6] (fun nv iv wr => ∃ i m : Nat, nv = .int .i64 (m : Int) ∧ iv = .int .i64 (i : Int) ∧ i ≤ L ∧ m ≤ 41 ∧ Hid (max m (Ty.depthAll (v.xs.drop i) far) = D) ∧ Hid (Below W.heap.size W wr)) (fun _ iv _ => L - (intOf iv).toNat)
    case atStart => exact ⟨0, 0, rfl, rfl, by omega, by omega, Lib.hid (by rw [HD.out, Nat.zero_max]; rfl), Lib.hid (Below.refl _ _)⟩
    case round =>
      obtain ⟨i, m, rfl, rfl, hi, hm, HR, HB⟩ := hrel
      have hz := HB0.out.lt
      have c5 := (HB0.out.below HB.out hz).cell 2
      simp only [List.getElem?_toArray, List.getElem?_cons_zero, List.getElem?_cons_succ] at c5
      clear hz
      by_cases hlt : i < L
      · have hil : i < v.xs.length := by rw [← HL.out]; exact hlt
        by_cases h0 : far = 0
        · have HE : Hid (D = m) := Lib.hid (by rw [← HR.out, h0, Ty.depthAll_0, Nat.max_zero])
          subst h0
          clear hil
          go_wp2_with fail
          go_ret
          exact ⟨by rw [HE.out]; simp, HBW.out.trans (HB.out.mono HBW.out.size)⟩
        · have hf1 : decide ((0 : Int) < (far : Int)) = true := by simp; omega
          have hf2 : decide (0 < far) = true := by simp; omega
          obtain ⟨xb, xo, rfl, hpx, hlc⟩ := HX.out i hil
          rw [← HL.out] at hlc
          obtain ⟨x, hxx⟩ : ∃ x, x = v.xs[i]'hil := ⟨_, rfl⟩
          have hcl := Ty.depth_le (far - 1) (v.xs[i]'hil)
          have HR2 : Hid (max (max m ((v.xs[i]'hil).depth (far - 1))) (Ty.depthAll (v.xs.drop (i + 1)) far) = D) := Lib.hid (by
            rw [← HR.out, drop_cons hil]; simp only [Ty.depthAll]; rw [if_neg h0, Nat.max_assoc])
          have hsz := HM.out (v.xs[i]'hil) (by simp)
          rw [← hxx] at hpx hcl HR2 hsz
          have hpw := hpx.below HB.out
          have d0 := hpw.c0; have d4 := hpw.c1; have d5 := hpw.c2
          obtain ⟨r4, t4, g4⟩ := hpw.in.nslice
          obtain ⟨r5, t5, g5⟩ := hpw.in.xslice
          rw [g4] at d4
          rw [g5] at d5
          have hc := tdepth_any d x (far - 1) wr hsz (by omega) hpw.in
          unfold Ty.agg at hc
          rw [g4, g5, show (((far - 1 : Nat) : Nat) : Int) = (far : Int) - 1 from by omega] at hc
          obtain ⟨q, hq⟩ : ∃ q, q = x.depth (far - 1) := ⟨_, rfl⟩
          rw [← hq] at hc hcl HR2
          have HC2 := Lib.hid hc
          have hk0 : (0 : Int) ≤ (i : Int) := by omega
          have hk1 : (i : Int) < (L : Int) := by omega
          clear hil hpx hpw hc hq hxx g4 g5 hsz h0
          go_wp2_with fail
          refine HC2.out.mono ?_
          rintro e w1 ⟨rfl, hb1⟩
          have HB1 := Lib.hid (HB.out.trans (hb1.mono HB.out.size))
          clear hb1 d0 d4 d5 c5 HC2
          go_wp2
          go_roundw
          case rel => exact ⟨i + 1, max m q, congrArg (Value.int .i64) (by split <;> omega), by go_num, by omega, by omega, HR2, HB1⟩
          case measure => simp [intOf]; omega
      · have HE : Hid (D = m) := Lib.hid (by rw [← HR.out, List.drop_eq_nil_of_le (by rw [← HL.out]; omega)]; simp [Ty.depthAll])
        go_wp2_with fail
        go_ret
        exact ⟨by rw [HE.out]; simp, HBW.out.trans (HB.out.mono HBW.out.size)⟩

def Ty.smallB (v : Ty) : Bool := decide (v.depth 40 ≤ 30) && decide (v.count 0 < 500)
theorem tsmall_any (v : Ty) (w : World) (h : v.In w) : Calls Tryz.prog 16 #[v.agg] w fun e w' => BoolBelow v.smallB w e w' := by
  obtain ⟨W, hW⟩ : ∃ W, W = w.alloc (.cells v.cells.toArray 36) := ⟨_, rfl⟩
  have hBW : Below w.heap.size w W := by rw [hW]; exact (Below.refl _ w).alloc (Nat.le_refl _) _
  have hb0 : Blk W w.heap.size 36 v.cells.toArray := by rw [hW]; exact Blk.new w 36 _
  obtain ⟨p4, q4, e4⟩ := h.nslice
  obtain ⟨p5, q5, e5⟩ := h.xslice
  have hc := tdepth_any v.sz v 40 W (Nat.le_refl _) (by omega) (h.below hBW)
  have hp := fun (W' : World) (hb : Below W.heap.size W W') => rtparts_any v W' ((h.below hBW).below hb)
  have hdl := Ty.depth_le 40 v
  have hcl := Ty.count_le v.sz v 0 (Nat.le_refl _) (by omega)
  unfold Ty.smallB
  unfold Ty.cells at hW hb0
  unfold Ty.agg at hc hp ⊢
  rw [e4, e5] at hW hc hp hb0 ⊢
  obtain ⟨D, hD⟩ : ∃ D, D = v.depth 40 := ⟨_, rfl⟩
  obtain ⟨C, hC⟩ : ∃ C, C = v.count 0 := ⟨_, rfl⟩
  rw [← hD] at hdl hc ⊢
  rw [← hC] at hcl hp ⊢
  obtain ⟨hcl1, hcl2⟩ := hcl
  have HW := Lib.hid hW; have HBW := Lib.hid hBW; have HC := Lib.hid hc; have HP := Lib.hid hp; have HB0 := Lib.hid hb0
  clear hW hBW hc hp e4 e5 h hD hC hb0
  by_cases hd : D ≤ 30
  · have t1 : decide ((D : Int) ≤ 30) = true := by simp; omega
    go_enter Tryz.func16, Tryz.ntmps16
    go_wp2_with fail
    rw [← HW.out]
    refine HC.out.mono ?_
    rintro e w1 ⟨rfl, hb1⟩
    have HB1 := Lib.hid hb1
    have hb2 := HB0.out.below hb1 HB0.out.lt
    have c0 := hb2.cell 0; have c4 := hb2.cell 1; have c5 := hb2.cell 2
    simp only [List.getElem?_toArray, List.getElem?_cons_zero, List.getElem?_cons_succ] at c0 c4 c5
    clear hb1 hb2
    go_wp2_with fail
    refine (HP.out _ HB1.out).mono ?_
    rintro e w2 ⟨rfl, hb2⟩
    have HB2 := Lib.hid (HBW.out.trans ((HB1.out.mono HBW.out.size).trans (hb2.mono (Nat.le_trans HBW.out.size HB1.out.size))))
    clear hb2
    by_cases h5 : C < 500
    · have t2 : decide ((C : Int) < 500) = true := by simp; omega
      have t3 : (decide (D ≤ 30) && decide (C < 500)) = true := by simp; omega
      have HT := Lib.hid t3
      clear t3
      go_wp2
      go_ret
      exact ⟨by rw [HT.out]; rfl, HB2.out⟩
    · have t2 : decide ((C : Int) < 500) = false := by simp; omega
      have t3 : (decide (D ≤ 30) && decide (C < 500)) = false := by simp; omega
      have HT := Lib.hid t3
      clear t3
      go_wp2
      go_ret
      exact ⟨by rw [HT.out]; rfl, HB2.out⟩
  · have t1 : decide ((D : Int) ≤ 30) = false := by simp; omega
    have t3 : (decide (D ≤ 30) && decide (C < 500)) = false := by simp; omega
    rw [t3]
    clear t3
    go_enter Tryz.func16, Tryz.ntmps16
    go_wp2_with fail
    rw [← HW.out]
    refine HC.out.mono ?_
    rintro e w1 ⟨rfl, hb1⟩
    have HB1 := Lib.hid (HBW.out.trans (hb1.mono HBW.out.size))
    clear hb1
    go_wp2
    go_ret
    exact ⟨rfl, HB1.out⟩
end Go.Proofs.YtjpdbhhjlnmacaaGreat

/- The document's answers on expressions: how many parts, how deep, how small (printed by wip/gen_exp2.py from XRefTSmall). -/
namespace Go.Proofs.YtjpdbhhjlnmacaaGreat
set_option linter.unusedVariables false
open Go.RowKit

mutual
/-- How deep, looked at so far. -/
def Exp.depth : Exp → Nat → Nat
  | .mk _ _ _ _ _ _ xs, far => Exp.depthAll xs far + 1
def Exp.depthAll : List Exp → Nat → Nat
  | [], _ => 0
  | x :: xs, far => if far = 0 then 0 else max (x.depth (far - 1)) (Exp.depthAll xs far)
end
theorem Exp.depth_eq (v : Exp) (far : Nat) : v.depth far = Exp.depthAll v.xs far + 1 := by cases v; simp [Exp.depth, Exp.xs]
theorem Exp.depthAll_0 (xs : List Exp) : Exp.depthAll xs 0 = 0 := by cases xs <;> simp [Exp.depthAll]
theorem Exp.depth_le : ∀ (far : Nat) (v : Exp), v.depth far ≤ far + 1
  | 0, v => by rw [Exp.depth_eq, Exp.depthAll_0]; exact Nat.le_refl _
  | far + 1, v => by
    rw [Exp.depth_eq]
    have : ∀ xs : List Exp, Exp.depthAll xs (far + 1) ≤ far + 1 := fun xs => by
      induction xs with
      | nil => simp [Exp.depthAll]
      | cons x xs ih =>
        simp only [Exp.depthAll, Nat.add_sub_cancel]
        rw [if_neg (by omega)]
        have := Exp.depth_le far x
        omega
    have := this v.xs
    omega

set_option maxHeartbeats 1000000 in
set_option maxRecDepth 100000 in
theorem xrcount_any : ∀ (d : Nat) (v : Exp) (n : Nat) (w : World), v.sz ≤ d → n < 500 → v.In w →
    Calls Tryz.prog 46 #[v.agg, .int .i64 n] w fun e w' => IntBelow ((v.count n : Nat) : Int) w e w'
  | 0, v, n, w, hd, _, _ => by rw [Exp.sz_eq] at hd; omega
  | d + 1, v, n, w, hd, hn, h => by
    obtain ⟨W, hW⟩ : ∃ W, W = w.alloc (.cells v.cells.toArray 29) := ⟨_, rfl⟩
    have hBW : Below w.heap.size w W := by rw [hW]; exact (Below.refl _ w).alloc (Nat.le_refl _) _
    have hb0 : Blk W w.heap.size 29 v.cells.toArray := by rw [hW]; exact Blk.new w 29 _
    obtain ⟨p, c, e5, hx⟩ := xitems_at (h.below hBW)
    obtain ⟨L, hL⟩ : ∃ L, L = v.xs.length := ⟨_, rfl⟩
    obtain ⟨p4, q4, e4⟩ := h.nslice
    obtain ⟨p6, q6, e6⟩ := h.val.nslice
    obtain ⟨p7, q7, e7⟩ := h.val.xslice
    have hxl := h.ok.2.2.2.1
    have hcw := Exp.count_le v.sz v n (Nat.le_refl _) hn
    unfold Exp.cells at hW hb0
    rw [e4, e5, e6, e7, ← hL] at hW hb0
    rw [← hL] at hxl
    unfold Exp.agg
    rw [e4, e5, e6, e7, ← hL]
    have HX := Lib.hid hx; have HL := Lib.hid hL; have HW := Lib.hid hW; have HBW := Lib.hid hBW; have HB0 := Lib.hid hb0; have HC := Lib.hid (Exp.count_eq v n)
    have HM := Lib.hid (show ∀ x, x ∈ v.xs → x.sz ≤ d from fun x hx => by have := Exp.size_mem hx; omega)
    obtain ⟨hcw1, hcw2⟩ := hcw
    obtain ⟨cn, hcn⟩ : ∃ cn, cn = v.count n := ⟨_, rfl⟩
    rw [← hcn] at HC hcw1 hcw2 ⊢
    clear hx hL hW hBW hb0 e4 e5 e6 e7 h hd hcn
    go_enter Tryz.func46, Tryz.ntmps46
    go_wp2_with fail
    rw [← HW.out]
    go_loopw [1, 5] (fun nv iv wr => ∃ i m : Nat, nv = .int .i64 (m : Int) ∧ iv = .int .i64 (i : Int) ∧ i ≤ L ∧ m ≤ 500 ∧ Hid (Exp.countAll (v.xs.drop i) m = cn) ∧ Hid (Below W.heap.size W wr)) (fun _ iv _ => L - (intOf iv).toNat)
    case atStart => exact ⟨0, n + 1, by simp, rfl, by omega, by omega, Lib.hid (by rw [HC.out]; rfl), Lib.hid (Below.refl _ _)⟩
    case round =>
      obtain ⟨i, m, rfl, rfl, hi, hm, HR, HB⟩ := hrel
      have hz := HB0.out.lt
      have c5 := (HB0.out.below HB.out hz).cell 9
      simp only [List.getElem?_toArray, List.getElem?_cons_zero, List.getElem?_cons_succ] at c5
      clear hz
      by_cases hlt : i < L
      · have hil : i < v.xs.length := by rw [← HL.out]; exact hlt
        by_cases h500 : 500 ≤ m
        · have HE : Hid (cn = m) := Lib.hid (by rw [← HR.out, Exp.countAll_ge h500])
          have hge : decide ((m : Int) < 500) = false := by simp; omega
          clear hil
          go_wp2_with fail
          go_ret
          exact ⟨by rw [HE.out]; rfl, HBW.out.trans (HB.out.mono HBW.out.size)⟩
        · have hlt5 : decide ((m : Int) < 500) = true := by simp; omega
          obtain ⟨xb, xo, rfl, hpx, hlc⟩ := HX.out i hil
          rw [← HL.out] at hlc
          obtain ⟨x, hxx⟩ : ∃ x, x = v.xs[i]'hil := ⟨_, rfl⟩
          have hcl := Exp.count_le d (v.xs[i]'hil) m (HM.out _ (by simp)) (by omega)
          have HR2 : Hid (Exp.countAll (v.xs.drop (i + 1)) ((v.xs[i]'hil).count m) = cn) := Lib.hid (by
            rw [← HR.out, drop_cons hil]; simp [Exp.countAll, h500])
          have hsz := HM.out (v.xs[i]'hil) (by simp)
          rw [← hxx] at hpx hcl HR2 hsz
          have hpw := hpx.below HB.out
          have d0 := hpw.c0; have d1 := hpw.c1; have d2 := hpw.c2; have d3 := hpw.c3; have d4 := hpw.c4; have d5 := hpw.c5; have d6 := hpw.c6; have d7 := hpw.c7; have d8 := hpw.c8; have d9 := hpw.c9
          obtain ⟨r4, t4, g4⟩ := hpw.in.nslice
          obtain ⟨r5, t5, g5⟩ := hpw.in.xslice
          obtain ⟨r6, t6, g6⟩ := hpw.in.val.nslice
          obtain ⟨r7, t7, g7⟩ := hpw.in.val.xslice
          rw [g4] at d8
          rw [g5] at d9
          rw [g6] at d6
          rw [g7] at d7
          have hc := xrcount_any d x m wr hsz (by omega) hpw.in
          unfold Exp.agg at hc
          rw [g4, g5, g6, g7] at hc
          obtain ⟨q, hq⟩ : ∃ q, q = x.count m := ⟨_, rfl⟩
          rw [← hq] at hc hcl HR2
          obtain ⟨hcl1, hcl2⟩ := hcl
          have HC2 := Lib.hid hc
          have hk0 : (0 : Int) ≤ (i : Int) := by omega
          have hk1 : (i : Int) < (L : Int) := by omega
          clear hil hpx hpw hc hq hxx g4 g5 g6 g7 hsz
          go_wp2_with fail
          refine HC2.out.mono ?_
          rintro e w1 ⟨rfl, hb1⟩
          have HB1 := Lib.hid (HB.out.trans (hb1.mono HB.out.size))
          clear hb1 d0 d1 d2 d3 d4 d5 d6 d7 d8 d9 c5 HC2
          go_wp2
          go_roundw
          case rel => exact ⟨i + 1, q, rfl, by go_num, by omega, by omega, HR2, HB1⟩
          case measure => simp [intOf]; omega
      · have HE : Hid (cn = m) := Lib.hid (by rw [← HR.out, List.drop_eq_nil_of_le (by rw [← HL.out]; omega)]; simp [Exp.countAll])
        go_wp2_with fail
        go_ret
        exact ⟨by rw [HE.out]; rfl, HBW.out.trans (HB.out.mono HBW.out.size)⟩

theorem xrparts_any (v : Exp) (w : World) (h : v.In w) : Calls Tryz.prog 26 #[v.agg] w fun e w' => IntBelow ((v.count 0 : Nat) : Int) w e w' := by
  obtain ⟨W, hW⟩ : ∃ W, W = w.alloc (.cells v.cells.toArray 29) := ⟨_, rfl⟩
  have hBW : Below w.heap.size w W := by rw [hW]; exact (Below.refl _ w).alloc (Nat.le_refl _) _
  obtain ⟨p4, q4, e4⟩ := h.nslice
  obtain ⟨p6, q6, e6⟩ := h.val.nslice
  obtain ⟨p7, q7, e7⟩ := h.val.xslice
  obtain ⟨p5, q5, e5⟩ := h.xslice
  have hc := xrcount_any v.sz v 0 W (Nat.le_refl _) (by omega) (h.below hBW)
  unfold Exp.cells at hW
  unfold Exp.agg at hc ⊢
  rw [e4, e5, e6, e7] at hW hc ⊢
  have HW := Lib.hid hW; have HBW := Lib.hid hBW; have HC := Lib.hid hc
  clear hW hBW hc e4 e5 e6 e7 h
  go_enter Tryz.func26, Tryz.ntmps26
  go_wp2_with fail
  rw [← HW.out]
  refine HC.out.mono ?_
  rintro e w1 ⟨rfl, hb1⟩
  have HB1 := Lib.hid (HBW.out.trans (hb1.mono HBW.out.size))
  clear hb1
  go_wp2
  go_ret
  exact ⟨rfl, HB1.out⟩

set_option maxHeartbeats 1000000 in
set_option maxRecDepth 100000 in
theorem xdepth_any : ∀ (d : Nat) (v : Exp) (far : Nat) (w : World), v.sz ≤ d → far ≤ 40 → v.In w →
    Calls Tryz.prog 25 #[v.agg, .int .i64 far] w fun e w' => IntBelow ((v.depth far : Nat) : Int) w e w'
  | 0, v, far, w, hd, _, _ => by rw [Exp.sz_eq] at hd; omega
  | d + 1, v, far, w, hd, hfar, h => by
    obtain ⟨W, hW⟩ : ∃ W, W = w.alloc (.cells v.cells.toArray 29) := ⟨_, rfl⟩
    have hBW : Below w.heap.size w W := by rw [hW]; exact (Below.refl _ w).alloc (Nat.le_refl _) _
    have hb0 : Blk W w.heap.size 29 v.cells.toArray := by rw [hW]; exact Blk.new w 29 _
    obtain ⟨p, c, e5, hx⟩ := xitems_at (h.below hBW)
    obtain ⟨L, hL⟩ : ∃ L, L = v.xs.length := ⟨_, rfl⟩
    obtain ⟨p4, q4, e4⟩ := h.nslice
    obtain ⟨p6, q6, e6⟩ := h.val.nslice
    obtain ⟨p7, q7, e7⟩ := h.val.xslice
    have hxl := h.ok.2.2.2.1
    unfold Exp.cells at hW hb0
    rw [e4, e5, e6, e7, ← hL] at hW hb0
    rw [← hL] at hxl
    unfold Exp.agg
    rw [e4, e5, e6, e7, ← hL]
    have hdl := Exp.depth_le far v
    have hde := Exp.depth_eq v far
    obtain ⟨D, hD⟩ : ∃ D, D = Exp.depthAll v.xs far := ⟨_, rfl⟩
    rw [← hD] at hde
    rw [hde] at hdl ⊢
    have HX := Lib.hid hx; have HL := Lib.hid hL; have HW := Lib.hid hW; have HBW := Lib.hid hBW; have HB0 := Lib.hid hb0; have HD := Lib.hid hD
    have HM := Lib.hid (show ∀ x, x ∈ v.xs → x.sz ≤ d from fun x hx => by have := Exp.size_mem hx; omega)
    clear hx hL hW hBW hb0 e4 e5 e6 e7 h hd hD hde
    go_enter Tryz.func25, Tryz.ntmps25
    go_wp2_with fail
    rw [← HW.out]
    go_loopw [5, 6] (fun nv iv wr => ∃ i m : Nat, nv = .int .i64 (m : Int) ∧ iv = .int .i64 (i : Int) ∧ i ≤ L ∧ m ≤ 41 ∧ Hid (max m (Exp.depthAll (v.xs.drop i) far) = D) ∧ Hid (Below W.heap.size W wr)) (fun _ iv _ => L - (intOf iv).toNat)
    case atStart => exact ⟨0, 0, rfl, rfl, by omega, by omega, Lib.hid (by rw [HD.out, Nat.zero_max]; rfl), Lib.hid (Below.refl _ _)⟩
    case round =>
      obtain ⟨i, m, rfl, rfl, hi, hm, HR, HB⟩ := hrel
      have hz := HB0.out.lt
      have c5 := (HB0.out.below HB.out hz).cell 9
      simp only [List.getElem?_toArray, List.getElem?_cons_zero, List.getElem?_cons_succ] at c5
      clear hz
      by_cases hlt : i < L
      · have hil : i < v.xs.length := by rw [← HL.out]; exact hlt
        by_cases h0 : far = 0
        · have HE : Hid (D = m) := Lib.hid (by rw [← HR.out, h0, Exp.depthAll_0, Nat.max_zero])
          subst h0
          clear hil
          go_wp2_with fail
          go_ret
          exact ⟨by rw [HE.out]; simp, HBW.out.trans (HB.out.mono HBW.out.size)⟩
        · have hf1 : decide ((0 : Int) < (far : Int)) = true := by simp; omega
          have hf2 : decide (0 < far) = true := by simp; omega
          obtain ⟨xb, xo, rfl, hpx, hlc⟩ := HX.out i hil
          rw [← HL.out] at hlc
          obtain ⟨x, hxx⟩ : ∃ x, x = v.xs[i]'hil := ⟨_, rfl⟩
          have hcl := Exp.depth_le (far - 1) (v.xs[i]'hil)
          have HR2 : Hid (max (max m ((v.xs[i]'hil).depth (far - 1))) (Exp.depthAll (v.xs.drop (i + 1)) far) = D) := Lib.hid (by
            rw [← HR.out, drop_cons hil]; simp only [Exp.depthAll]; rw [if_neg h0, Nat.max_assoc])
          have hsz := HM.out (v.xs[i]'hil) (by simp)
          rw [← hxx] at hpx hcl HR2 hsz
          have hpw := hpx.below HB.out
          have d0 := hpw.c0; have d1 := hpw.c1; have d2 := hpw.c2; have d3 := hpw.c3; have d4 := hpw.c4; have d5 := hpw.c5; have d6 := hpw.c6; have d7 := hpw.c7; have d8 := hpw.c8; have d9 := hpw.c9
          obtain ⟨r4, t4, g4⟩ := hpw.in.nslice
          obtain ⟨r5, t5, g5⟩ := hpw.in.xslice
          obtain ⟨r6, t6, g6⟩ := hpw.in.val.nslice
          obtain ⟨r7, t7, g7⟩ := hpw.in.val.xslice
          rw [g4] at d8
          rw [g5] at d9
          rw [g6] at d6
          rw [g7] at d7
          have hc := xdepth_any d x (far - 1) wr hsz (by omega) hpw.in
          unfold Exp.agg at hc
          rw [g4, g5, g6, g7, show (((far - 1 : Nat) : Nat) : Int) = (far : Int) - 1 from by omega] at hc
          obtain ⟨q, hq⟩ : ∃ q, q = x.depth (far - 1) := ⟨_, rfl⟩
          rw [← hq] at hc hcl HR2
          have HC2 := Lib.hid hc
          have hk0 : (0 : Int) ≤ (i : Int) := by omega
          have hk1 : (i : Int) < (L : Int) := by omega
          clear hil hpx hpw hc hq hxx g4 g5 g6 g7 hsz h0
          go_wp2_with fail
          refine HC2.out.mono ?_
          rintro e w1 ⟨rfl, hb1⟩
          have HB1 := Lib.hid (HB.out.trans (hb1.mono HB.out.size))
          clear hb1 d0 d1 d2 d3 d4 d5 d6 d7 d8 d9 c5 HC2
          go_wp2
          go_roundw
          case rel => exact ⟨i + 1, max m q, congrArg (Value.int .i64) (by split <;> omega), by go_num, by omega, by omega, HR2, HB1⟩
          case measure => simp [intOf]; omega
      · have HE : Hid (D = m) := Lib.hid (by rw [← HR.out, List.drop_eq_nil_of_le (by rw [← HL.out]; omega)]; simp [Exp.depthAll])
        go_wp2_with fail
        go_ret
        exact ⟨by rw [HE.out]; simp, HBW.out.trans (HB.out.mono HBW.out.size)⟩

end Go.Proofs.YtjpdbhhjlnmacaaGreat
