/- The document's answers on values: how many parts, how deep, how small. -/
import Derived.Test.YtemhinagajfemaaConeM12
import Derived.Test.YtemhinagajfemaaConeM14
import Derived.Test.YtemhinagajfemaaConeM34
namespace Go.Proofs.Ytemhinagajfemaa
set_option linter.unusedVariables false
open Go.RowKit

mutual
/-- How deep, looked at so far. -/
def Val.depth : Val → Nat → Nat
  | .mk _ _ _ _ _ _ _ xs, far => Val.depthAll xs far + 1
def Val.depthAll : List Val → Nat → Nat
  | [], _ => 0
  | x :: xs, far => if far = 0 then 0 else max (x.depth (far - 1)) (Val.depthAll xs far)
end
theorem Val.depth_eq (v : Val) (far : Nat) : v.depth far = Val.depthAll v.xs far + 1 := by cases v; simp [Val.depth, Val.xs]
theorem Val.depthAll_0 (xs : List Val) : Val.depthAll xs 0 = 0 := by cases xs <;> simp [Val.depthAll]
theorem Val.depth_le : ∀ (far : Nat) (v : Val), v.depth far ≤ far + 1
  | 0, v => by rw [Val.depth_eq, Val.depthAll_0]; exact Nat.le_refl _
  | far + 1, v => by
    rw [Val.depth_eq]
    have : ∀ xs : List Val, Val.depthAll xs (far + 1) ≤ far + 1 := fun xs => by
      induction xs with
      | nil => simp [Val.depthAll]
      | cons x xs ih =>
        simp only [Val.depthAll, Nat.add_sub_cancel]
        rw [if_neg (by omega)]
        have := Val.depth_le far x
        omega
    have := this v.xs
    omega

set_option maxHeartbeats 1000000 in
set_option maxRecDepth 100000 in
theorem rcount_any : ∀ (d : Nat) (v : Val) (n : Nat) (w : World), v.sz ≤ d → n < 500 → v.In w →
    Calls Try.prog 88 #[v.agg, .int .i64 n] w fun e w' => IntBelow ((v.count n : Nat) : Int) w e w'
  | 0, v, n, w, hd, _, _ => by rw [Val.sz_eq] at hd; omega
  | d + 1, v, n, w, hd, hn, h => by
    obtain ⟨W, hW⟩ : ∃ W, W = w.alloc (.cells v.cells.toArray 46) := ⟨_, rfl⟩
    have hBW : Below w.heap.size w W := by rw [hW]; exact (Below.refl _ w).alloc (Nat.le_refl _) _
    have hb0 : Blk W w.heap.size 46 v.cells.toArray := by rw [hW]; exact Blk.new w 46 _
    obtain ⟨p, c, e5, hx⟩ := items_at (h.below hBW)
    obtain ⟨L, hL⟩ : ∃ L, L = v.xs.length := ⟨_, rfl⟩
    obtain ⟨p4, q4, e4⟩ := h.nslice
    have hxl := h.ok.2.2.2.2.2.1
    have hcw := Val.count_le v.sz v n (Nat.le_refl _) hn
    unfold Val.cells at hW hb0
    rw [e4, e5, ← hL] at hW hb0
    rw [← hL] at hxl
    unfold Val.agg
    rw [e4, e5, ← hL]
    have HX := Lib.hid hx; have HL := Lib.hid hL; have HW := Lib.hid hW; have HBW := Lib.hid hBW; have HB0 := Lib.hid hb0; have HC := Lib.hid (Val.count_eq v n)
    have HM := Lib.hid (show ∀ x, x ∈ v.xs → x.sz ≤ d from fun x hx => by have := Val.size_mem hx; omega)
    obtain ⟨hcw1, hcw2⟩ := hcw
    obtain ⟨cn, hcn⟩ : ∃ cn, cn = v.count n := ⟨_, rfl⟩
    rw [← hcn] at HC hcw1 hcw2 ⊢
    clear hx hL hW hBW hb0 e4 e5 h hd hcn
    go_enter Try.func88, Try.ntmps88
    go_wp2_with fail
    rw [← HW.out]
    go_loopw [1, 5] (fun nv iv wr => ∃ i m : Nat, nv = .int .i64 (m : Int) ∧ iv = .int .i64 (i : Int) ∧ i ≤ L ∧ m ≤ 500 ∧ Hid (Val.countAll (v.xs.drop i) m = cn) ∧ Hid (Below W.heap.size W wr)) (fun _ iv _ => L - (intOf iv).toNat)
    case atStart => exact ⟨0, n + 1, by simp, rfl, by omega, by omega, Lib.hid (by rw [HC.out]; rfl), Lib.hid (Below.refl _ _)⟩
    case round =>
      obtain ⟨i, m, rfl, rfl, hi, hm, HR, HB⟩ := hrel
      have hz := HB0.out.lt
      have c5 := (HB0.out.below HB.out hz).cell 5
      simp only [List.getElem?_toArray, List.getElem?_cons_zero, List.getElem?_cons_succ] at c5
      clear hz
      by_cases hlt : i < L
      · have hil : i < v.xs.length := by rw [← HL.out]; exact hlt
        by_cases h500 : 500 ≤ m
        · have HE : Hid (cn = m) := Lib.hid (by rw [← HR.out, Val.countAll_ge h500])
          have hge : decide ((m : Int) < 500) = false := by simp; omega
          clear hil
          go_wp2_with fail
          go_ret
          exact ⟨by rw [HE.out]; rfl, HBW.out.trans (HB.out.mono HBW.out.size)⟩
        · have hlt5 : decide ((m : Int) < 500) = true := by simp; omega
          obtain ⟨xb, xo, rfl, hpx, hlc⟩ := HX.out i hil
          rw [← HL.out] at hlc
          obtain ⟨x, hxx⟩ : ∃ x, x = v.xs[i]'hil := ⟨_, rfl⟩
          have hcl := Val.count_le d (v.xs[i]'hil) m (HM.out _ (by simp)) (by omega)
          have HR2 : Hid (Val.countAll (v.xs.drop (i + 1)) ((v.xs[i]'hil).count m) = cn) := Lib.hid (by
            rw [← HR.out, drop_cons hil]; simp [Val.countAll, h500])
          have hsz := HM.out (v.xs[i]'hil) (by simp)
          rw [← hxx] at hpx hcl HR2 hsz
          have hpw := hpx.below HB.out
          have d0 := hpw.c0; have d1 := hpw.c1; have d2 := hpw.c2; have d3 := hpw.c3; have d4 := hpw.c4; have d5 := hpw.c5
          obtain ⟨r4, t4, g4⟩ := hpw.in.nslice
          obtain ⟨r5, t5, g5⟩ := hpw.in.xslice
          rw [g4] at d4
          rw [g5] at d5
          have hc := rcount_any d x m wr hsz (by omega) hpw.in
          unfold Val.agg at hc
          rw [g4, g5] at hc
          obtain ⟨q, hq⟩ : ∃ q, q = x.count m := ⟨_, rfl⟩
          rw [← hq] at hc hcl HR2
          obtain ⟨hcl1, hcl2⟩ := hcl
          have HC2 := Lib.hid hc
          have hk0 : (0 : Int) ≤ (i : Int) := by omega
          have hk1 : (i : Int) < (L : Int) := by omega
          clear hil hpx hpw hc hq hxx g4 g5 hsz
          go_wp2_with fail
          refine HC2.out.mono ?_
          rintro e w1 ⟨rfl, hb1⟩
          have HB1 := Lib.hid (HB.out.trans (hb1.mono HB.out.size))
          clear hb1 d0 d1 d2 d3 d4 d5 c5 HC2
          go_wp2
          go_roundw
          case rel => exact ⟨i + 1, q, rfl, by go_num, by omega, by omega, HR2, HB1⟩
          case measure => simp [intOf]; omega
      · have HE : Hid (cn = m) := Lib.hid (by rw [← HR.out, List.drop_eq_nil_of_le (by rw [← HL.out]; omega)]; simp [Val.countAll])
        go_wp2_with fail
        go_ret
        exact ⟨by rw [HE.out]; rfl, HBW.out.trans (HB.out.mono HBW.out.size)⟩

theorem rparts_any (v : Val) (w : World) (h : v.In w) : Calls Try.prog 62 #[v.agg] w fun e w' => IntBelow ((v.count 0 : Nat) : Int) w e w' := by
  obtain ⟨W, hW⟩ : ∃ W, W = w.alloc (.cells v.cells.toArray 46) := ⟨_, rfl⟩
  have hBW : Below w.heap.size w W := by rw [hW]; exact (Below.refl _ w).alloc (Nat.le_refl _) _
  obtain ⟨p4, q4, e4⟩ := h.nslice
  obtain ⟨p5, q5, e5⟩ := h.xslice
  have hc := rcount_any v.sz v 0 W (Nat.le_refl _) (by omega) (h.below hBW)
  unfold Val.cells at hW
  unfold Val.agg at hc ⊢
  rw [e4, e5] at hW hc ⊢
  have HW := Lib.hid hW; have HBW := Lib.hid hBW; have HC := Lib.hid hc
  clear hW hBW hc e4 e5 h
  go_enter Try.func62, Try.ntmps62
  go_wp2_with fail
  rw [← HW.out]
  refine HC.out.mono ?_
  rintro e w1 ⟨rfl, hb1⟩
  have HB1 := Lib.hid (HBW.out.trans (hb1.mono HBW.out.size))
  clear hb1
  go_wp2
  go_ret
  exact ⟨rfl, HB1.out⟩

set_option maxHeartbeats 1000000 in
set_option maxRecDepth 100000 in
theorem depth_any : ∀ (d : Nat) (v : Val) (far : Nat) (w : World), v.sz ≤ d → far ≤ 40 → v.In w →
    Calls Try.prog 61 #[v.agg, .int .i64 far] w fun e w' => IntBelow ((v.depth far : Nat) : Int) w e w'
  | 0, v, far, w, hd, _, _ => by rw [Val.sz_eq] at hd; omega
  | d + 1, v, far, w, hd, hfar, h => by
    obtain ⟨W, hW⟩ : ∃ W, W = w.alloc (.cells v.cells.toArray 46) := ⟨_, rfl⟩
    have hBW : Below w.heap.size w W := by rw [hW]; exact (Below.refl _ w).alloc (Nat.le_refl _) _
    have hb0 : Blk W w.heap.size 46 v.cells.toArray := by rw [hW]; exact Blk.new w 46 _
    obtain ⟨p, c, e5, hx⟩ := items_at (h.below hBW)
    obtain ⟨L, hL⟩ : ∃ L, L = v.xs.length := ⟨_, rfl⟩
    obtain ⟨p4, q4, e4⟩ := h.nslice
    have hxl := h.ok.2.2.2.2.2.1
    unfold Val.cells at hW hb0
    rw [e4, e5, ← hL] at hW hb0
    rw [← hL] at hxl
    unfold Val.agg
    rw [e4, e5, ← hL]
    have hdl := Val.depth_le far v
    have hde := Val.depth_eq v far
    obtain ⟨D, hD⟩ : ∃ D, D = Val.depthAll v.xs far := ⟨_, rfl⟩
    rw [← hD] at hde
    rw [hde] at hdl ⊢
    have HX := Lib.hid hx; have HL := Lib.hid hL; have HW := Lib.hid hW; have HBW := Lib.hid hBW; have HB0 := Lib.hid hb0; have HD := Lib.hid hD
    have HM := Lib.hid (show ∀ x, x ∈ v.xs → x.sz ≤ d from fun x hx => by have := Val.size_mem hx; omega)
    clear hx hL hW hBW hb0 e4 e5 h hd hD hde
    go_enter Try.func61, Try.ntmps61
    go_wp2_with fail
    rw [← HW.out]
    go_loopw [5, 6] (fun nv iv wr => ∃ i m : Nat, nv = .int .i64 (m : Int) ∧ iv = .int .i64 (i : Int) ∧ i ≤ L ∧ m ≤ 41 ∧ Hid (max m (Val.depthAll (v.xs.drop i) far) = D) ∧ Hid (Below W.heap.size W wr)) (fun _ iv _ => L - (intOf iv).toNat)
    case atStart => exact ⟨0, 0, rfl, rfl, by omega, by omega, Lib.hid (by rw [HD.out, Nat.zero_max]; rfl), Lib.hid (Below.refl _ _)⟩
    case round =>
      obtain ⟨i, m, rfl, rfl, hi, hm, HR, HB⟩ := hrel
      have hz := HB0.out.lt
      have c5 := (HB0.out.below HB.out hz).cell 5
      simp only [List.getElem?_toArray, List.getElem?_cons_zero, List.getElem?_cons_succ] at c5
      clear hz
      by_cases hlt : i < L
      · have hil : i < v.xs.length := by rw [← HL.out]; exact hlt
        by_cases h0 : far = 0
        · have HE : Hid (D = m) := Lib.hid (by rw [← HR.out, h0, Val.depthAll_0, Nat.max_zero])
          subst h0
          clear hil
          go_wp2_with fail
          go_ret
          exact ⟨by rw [HE.out]; simp, HBW.out.trans (HB.out.mono HBW.out.size)⟩
        · have hf1 : decide ((0 : Int) < (far : Int)) = true := by simp; omega
          have hf2 : decide (0 < far) = true := by simp; omega
          obtain ⟨xb, xo, rfl, hpx, hlc⟩ := HX.out i hil
          rw [← HL.out] at hlc
          obtain ⟨x, hxx⟩ : ∃ x, x = v.xs[i]'hil := ⟨_, rfl⟩
          have hcl := Val.depth_le (far - 1) (v.xs[i]'hil)
          have HR2 : Hid (max (max m ((v.xs[i]'hil).depth (far - 1))) (Val.depthAll (v.xs.drop (i + 1)) far) = D) := Lib.hid (by
            rw [← HR.out, drop_cons hil]; simp only [Val.depthAll]; rw [if_neg h0, Nat.max_assoc])
          have hsz := HM.out (v.xs[i]'hil) (by simp)
          rw [← hxx] at hpx hcl HR2 hsz
          have hpw := hpx.below HB.out
          have d0 := hpw.c0; have d1 := hpw.c1; have d2 := hpw.c2; have d3 := hpw.c3; have d4 := hpw.c4; have d5 := hpw.c5
          obtain ⟨r4, t4, g4⟩ := hpw.in.nslice
          obtain ⟨r5, t5, g5⟩ := hpw.in.xslice
          rw [g4] at d4
          rw [g5] at d5
          have hc := depth_any d x (far - 1) wr hsz (by omega) hpw.in
          unfold Val.agg at hc
          rw [g4, g5, show (((far - 1 : Nat) : Nat) : Int) = (far : Int) - 1 from by omega] at hc
          obtain ⟨q, hq⟩ : ∃ q, q = x.depth (far - 1) := ⟨_, rfl⟩
          rw [← hq] at hc hcl HR2
          have HC2 := Lib.hid hc
          have hk0 : (0 : Int) ≤ (i : Int) := by omega
          have hk1 : (i : Int) < (L : Int) := by omega
          clear hil hpx hpw hc hq hxx g4 g5 hsz h0
          go_wp2_with fail
          refine HC2.out.mono ?_
          rintro e w1 ⟨rfl, hb1⟩
          have HB1 := Lib.hid (HB.out.trans (hb1.mono HB.out.size))
          clear hb1 d0 d1 d2 d3 d4 d5 c5 HC2
          go_wp2
          go_roundw
          case rel => exact ⟨i + 1, max m q, congrArg (Value.int .i64) (by split <;> omega), by go_num, by omega, by omega, HR2, HB1⟩
          case measure => simp [intOf]; omega
      · have HE : Hid (D = m) := Lib.hid (by rw [← HR.out, List.drop_eq_nil_of_le (by rw [← HL.out]; omega)]; simp [Val.depthAll])
        go_wp2_with fail
        go_ret
        exact ⟨by rw [HE.out]; simp, HBW.out.trans (HB.out.mono HBW.out.size)⟩

def Val.smallB (v : Val) : Bool := decide (v.depth 40 ≤ 30) && decide (v.count 0 < 500)
theorem small_any (v : Val) (w : World) (h : v.In w) : Calls Try.prog 22 #[v.agg] w fun e w' => BoolBelow v.smallB w e w' := by
  obtain ⟨W, hW⟩ : ∃ W, W = w.alloc (.cells v.cells.toArray 46) := ⟨_, rfl⟩
  have hBW : Below w.heap.size w W := by rw [hW]; exact (Below.refl _ w).alloc (Nat.le_refl _) _
  have hb0 : Blk W w.heap.size 46 v.cells.toArray := by rw [hW]; exact Blk.new w 46 _
  obtain ⟨p4, q4, e4⟩ := h.nslice
  obtain ⟨p5, q5, e5⟩ := h.xslice
  have hc := depth_any v.sz v 40 W (Nat.le_refl _) (by omega) (h.below hBW)
  have hp := fun (W' : World) (hb : Below W.heap.size W W') => rparts_any v W' ((h.below hBW).below hb)
  have hdl := Val.depth_le 40 v
  have hcl := Val.count_le v.sz v 0 (Nat.le_refl _) (by omega)
  unfold Val.smallB
  unfold Val.cells at hW hb0
  unfold Val.agg at hc hp ⊢
  rw [e4, e5] at hW hc hp hb0 ⊢
  obtain ⟨D, hD⟩ : ∃ D, D = v.depth 40 := ⟨_, rfl⟩
  obtain ⟨C, hC⟩ : ∃ C, C = v.count 0 := ⟨_, rfl⟩
  rw [← hD] at hdl hc ⊢
  rw [← hC] at hcl hp ⊢
  obtain ⟨hcl1, hcl2⟩ := hcl
  have HW := Lib.hid hW; have HBW := Lib.hid hBW; have HC := Lib.hid hc; have HP := Lib.hid hp; have HB0 := Lib.hid hb0
  clear hW hBW hc hp e4 e5 h hD hC hb0
  by_cases hd : D ≤ 30
  · have t1 : decide ((D : Int) ≤ 30) = true := by simp; omega
    go_enter Try.func22, Try.ntmps22
    go_wp2_with fail
    rw [← HW.out]
    refine HC.out.mono ?_
    rintro e w1 ⟨rfl, hb1⟩
    have HB1 := Lib.hid hb1
    have hb2 := HB0.out.below hb1 HB0.out.lt
    have c0 := hb2.cell 0; have c1 := hb2.cell 1; have c2 := hb2.cell 2; have c3 := hb2.cell 3; have c4 := hb2.cell 4; have c5 := hb2.cell 5
    simp only [List.getElem?_toArray, List.getElem?_cons_zero, List.getElem?_cons_succ] at c0 c1 c2 c3 c4 c5
    clear hb1 hb2
    go_wp2_with fail
    refine (HP.out _ HB1.out).mono ?_
    rintro e w2 ⟨rfl, hb2⟩
    have HB2 := Lib.hid (HBW.out.trans ((HB1.out.mono HBW.out.size).trans (hb2.mono (Nat.le_trans HBW.out.size HB1.out.size))))
    clear hb2
    by_cases h5 : C < 500
    · have t2 : decide ((C : Int) < 500) = true := by simp; omega
      have t3 : (decide (D ≤ 30) && decide (C < 500)) = true := by simp; omega
      have HT := Lib.hid t3
      clear t3
      go_wp2
      go_ret
      exact ⟨by rw [HT.out]; rfl, HB2.out⟩
    · have t2 : decide ((C : Int) < 500) = false := by simp; omega
      have t3 : (decide (D ≤ 30) && decide (C < 500)) = false := by simp; omega
      have HT := Lib.hid t3
      clear t3
      go_wp2
      go_ret
      exact ⟨by rw [HT.out]; rfl, HB2.out⟩
  · have t1 : decide ((D : Int) ≤ 30) = false := by simp; omega
    have t3 : (decide (D ≤ 30) && decide (C < 500)) = false := by simp; omega
    rw [t3]
    clear t3
    go_enter Try.func22, Try.ntmps22
    go_wp2_with fail
    rw [← HW.out]
    refine HC.out.mono ?_
    rintro e w1 ⟨rfl, hb1⟩
    have HB1 := Lib.hid (HBW.out.trans (hb1.mono HBW.out.size))
    clear hb1
    go_wp2
    go_ret
    exact ⟨rfl, HB1.out⟩
end Go.Proofs.Ytemhinagajfemaa
