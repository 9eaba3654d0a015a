/- The document's answers: how two numbers, two strings, two rows of names stand. -/
import Derived.Test.YtaamihdibpioaaaGreatJkM1
import Derived.Test.YtaamihdibpioaaaGreatJkM10
import Derived.Test.YtaamihdibpioaaaGreatJkM22
import Derived.Deep.QuietTactic
import Derived.BigQuiet
namespace Go.Proofs.YtaamihdibpioaaaGreat
set_option linter.unusedVariables false
open Go.RowKit

theorem sgnI_refl (a : Int) : sgnI a a = 0 := by unfold sgnI; rw [if_neg (by omega), if_neg (by omega)]
theorem sign_any (a b : Int) (w : World) : Calls Tryz.prog 72 #[.int .i64 a, .int .i64 b] w fun e w' => e = .returned (.int .i64 (sgnI a b)) ∧ w = w' := by
  unfold sgnI
  by_cases h1 : a < b
  · rw [if_pos h1]
    have t1 : decide (a < b) = true := by simpa using h1
    clear h1
    go_enter Tryz.func72, Tryz.ntmps72
    go_wp2
    go_ret
    exact ⟨rfl, rfl⟩
  · rw [if_neg h1]
    have t1 : decide (a < b) = false := by simpa using h1
    by_cases h2 : b < a
    · rw [if_pos h2]
      have t2 : decide (b < a) = true := by simpa using h2
      clear h1 h2
      go_enter Tryz.func72, Tryz.ntmps72
      go_wp2
      go_ret
      exact ⟨rfl, rfl⟩
    · rw [if_neg h2]
      have t2 : decide (b < a) = false := by simpa using h2
      clear h1 h2
      go_enter Tryz.func72, Tryz.ntmps72
      go_wp2
      go_ret
      exact ⟨rfl, rfl⟩
theorem text_any (a b : ByteArray) (w : World) : Calls Tryz.prog 74 #[.string a, .string b] w fun e w' => e = .returned (.int .i64 (scmp a b)) ∧ w = w' := by
  cases h1 : Op.bytesLess a.toList b.toList with
  | true =>
    have e : scmp a b = -1 := by unfold scmp; rw [if_pos h1]
    rw [e]
    clear e
    go_enter Tryz.func74, Tryz.ntmps74
    go_wp2
    go_ret
    exact ⟨rfl, rfl⟩
  | false =>
    cases h2 : (a.toList == b.toList) with
    | false =>
      have e : scmp a b = 1 := by unfold scmp; rw [if_neg (by rw [h1]; simp), if_neg (by rw [h2]; simp)]
      rw [e]
      clear e
      go_enter Tryz.func74, Tryz.ntmps74
      go_wp2
      go_ret
      exact ⟨rfl, rfl⟩
    | true =>
      have e : scmp a b = 0 := by unfold scmp; rw [if_neg (by rw [h1]; simp), if_pos h2]
      rw [e]
      clear e
      go_enter Tryz.func74, Tryz.ntmps74
      go_wp2
      go_ret
      exact ⟨rfl, rfl⟩

/-- How names lie, told for the walk: whatever slice it is. -/
def NamesIn (w : World) (p : Option Addr) (c : Nat) (ns : List ByteArray) : Prop := ∀ i, i < ns.length → ∃ b o, p = some ⟨b, o, none⟩ ∧ b < w.heap.size ∧ w.cell? ⟨b, o + i, none⟩ = some (.string (ns.getD i ByteArray.empty)) ∧ ns.length ≤ c
theorem names_in {w : World} {a : Value} {ns : List ByteArray} (h : NamesAt w a ns) : ∃ p c, a = .slice p ns.length c ∧ NamesIn w p c ns := by
  rcases h with ⟨p, rfl, rfl⟩ | ⟨b, o, cap, rfl, h2, h3, h5, h4⟩
  · exact ⟨p, 0, rfl, fun i hi => absurd hi (by simp)⟩
  · exact ⟨_, _, rfl, fun i hi => ⟨b, o, rfl, by omega, h4 i hi, h2⟩⟩
theorem ncmp_end {ns ms : List ByteArray} {i : Nat} (h : i ≤ ns.length) (h' : i ≤ ms.length) (hx : i = ns.length ∨ i = ms.length) : ncmp (ns.drop i) (ms.drop i) = sgnI (ns.length : Int) (ms.length : Int) := by
  unfold sgnI
  rcases hx with hx | hx
  · rw [List.drop_eq_nil_of_le (Nat.le_of_eq hx.symm), ncmp_nil, List.length_drop]
    by_cases hm : ns.length < ms.length
    · rw [if_pos (by omega), if_pos (by omega)]
    · rw [if_neg (by omega), if_neg (by omega), if_neg (by omega)]
  · rw [show ms.drop i = [] from List.drop_eq_nil_of_le (Nat.le_of_eq hx.symm)]
    by_cases hm : ms.length < ns.length
    · rw [ncmp_one (by rw [List.length_drop]; omega), if_neg (by omega), if_pos (by omega)]
    · rw [List.drop_eq_nil_of_le (by omega), if_neg (by omega), if_neg (by omega)]
      rfl
def IntDrew (n : Int) (w : World) (e : Ending) (w' : World) : Prop := e = .returned (.int .i64 n) ∧ ∃ k, w' = w.drewN k

set_option maxHeartbeats 2000000 in
set_option maxRecDepth 100000 in
theorem rows_any (a b : Value) (ns ms : List ByteArray) (w : World) (ha : NamesAt w a ns) (hb : NamesAt w b ms) (hn : ns.length ≤ 8796093021952) (hm : ms.length ≤ 8796093021952) :
    Calls Tryz.prog 75 #[a, b] w fun e w' => IntDrew (ncmp ns ms) w e w' := by
  obtain ⟨p, c, rfl, hp⟩ := names_in ha
  obtain ⟨q, c2, rfl, hq⟩ := names_in hb
  obtain ⟨L, hL⟩ : ∃ L, L = ns.length := ⟨_, rfl⟩
  obtain ⟨M, hM⟩ : ∃ M, M = ms.length := ⟨_, rfl⟩
  rw [← hL] at hn
  rw [← hM] at hm
  rw [← hL, ← hM]
  have HL := Lib.hid hL; have HM := Lib.hid hM; have HP := Lib.hid hp; have HQ := Lib.hid hq
  obtain ⟨N, hN⟩ : ∃ N, N = ncmp ns ms := ⟨_, rfl⟩
  rw [← hN]
  have HN := Lib.hid hN
  clear hL hM hp hq ha hb hN
  go_enter Tryz.func75, Tryz.ntmps75
  go_wp2_with fail
  go_loopw [5] (fun iv wr => ∃ i k : Nat, iv = .int .i64 (i : Int) ∧ i ≤ L ∧ i ≤ M ∧ Hid (ncmp (ns.drop i) (ms.drop i) = N) ∧ Hid (wr = w.drewN k)) (fun iv _ => L - (intOf iv).toNat)
  case atStart => exact ⟨0, 0, rfl, by omega, by omega, Lib.hid HN.out.symm, Lib.hid rfl⟩
  case round =>
    obtain ⟨i, k, rfl, hi, hi2, HR, HK⟩ := hrel
    by_cases hlt : i < L ∧ i < M
    · obtain ⟨hlt1, hlt2⟩ := hlt
      have hil1 : i < ns.length := by rw [← HL.out]; exact hlt1
      have hil2 : i < ms.length := by rw [← HM.out]; exact hlt2
      obtain ⟨pb, po, rfl, hpb, hpc, hc⟩ := HP.out i hil1
      obtain ⟨qb, qo, rfl, hqb, hqc, hc2⟩ := HQ.out i hil2
      obtain ⟨s, hs⟩ : ∃ s, s = ns.getD i ByteArray.empty := ⟨_, rfl⟩
      obtain ⟨t, ht⟩ : ∃ t, t = ms.getD i ByteArray.empty := ⟨_, rfl⟩
      rw [← hs] at hpc
      rw [← ht] at hqc
      rw [← HL.out] at hc
      rw [← HM.out] at hc2
      have e1 : wr.cell? ⟨pb, po + i, none⟩ = some (.string s) := by rw [HK.out]; exact hpc
      have e2 : wr.cell? ⟨qb, qo + i, none⟩ = some (.string t) := by rw [HK.out]; exact hqc
      have hst : N = if scmp s t ≠ 0 then scmp s t else ncmp (ns.drop (i + 1)) (ms.drop (i + 1)) := by
        rw [← HR.out, drop_cons hil1, drop_cons hil2]
        simp only [ncmp]
        rw [hs, ht]
        simp only [List.getD_eq_getElem?_getD, List.getElem?_eq_getElem hil1, List.getElem?_eq_getElem hil2, Option.getD_some]
      have HST := Lib.hid hst
      have HTX := Lib.hid (fun W : World => text_any s t W)
      obtain ⟨c3, hc3⟩ : ∃ c3, c3 = scmp s t := ⟨_, rfl⟩
      rw [← hc3] at HTX HST
      have hk0 : (0 : Int) ≤ (i : Int) := by omega
      have hk1 : (i : Int) < (L : Int) := by omega
      have hk2 : (i : Int) < (M : Int) := by omega
      clear hpc hqc hs ht hst hc3 hil1 hil2 HR
      by_cases h0 : c3 = 0
      · subst h0
        have HR2 : Hid (ncmp (ns.drop (i + 1)) (ms.drop (i + 1)) = N) := Lib.hid (by rw [HST.out, if_neg (by simp)])
        go_wp2_with fail
        go_quiet ((go_at_call 74; exact quiet_left (HTX.out _)))
        go_wp2
        exact ⟨⟨i + 1, k + nq, by go_num, by omega, by omega, HR2, Lib.hid (by rw [HK.out, World.drewN_drewN])⟩, by simp [intOf]; omega⟩
      · have HR2 : Hid (N = c3) := Lib.hid (by rw [HST.out, if_pos h0])
        have i3 : (c3 == 0) = false := by simpa using h0
        have i4 : (c3 != 0) = true := by simpa using h0
        clear h0 HST
        go_wp2_with fail
        go_quiet ((go_at_call 74; exact quiet_left (HTX.out _)))
        go_wp2
        go_ret
        exact ⟨by rw [HR2.out]; rfl, k + nq, by rw [HK.out, World.drewN_drewN]⟩
    · have hse := sign_any (L : Int) (M : Int) wr
      have HE : Hid (sgnI (L : Int) (M : Int) = N) := Lib.hid (by
        rw [← HR.out, ncmp_end (by rw [← HL.out]; exact hi) (by rw [← HM.out]; exact hi2) (by rw [← HL.out, ← HM.out]; omega), ← HL.out, ← HM.out])
      rw [HE.out] at hse
      have HS := Lib.hid hse
      clear hse HR
      by_cases h1 : i < L
      · have h2 : ¬ i < M := by omega
        have t1 : decide ((i : Int) < (M : Int)) = false := by simp; omega
        have t1' : decide (i < M) = false := by simp; omega
        clear hlt
        go_wp2_with fail
        refine HS.out.mono ?_
        rintro e w' ⟨rfl, rfl⟩
        go_wp2
        go_ret
        exact ⟨rfl, k, HK.out⟩
      · have t1 : decide ((i : Int) < (L : Int)) = false := by simp; omega
        have t1' : decide (i < L) = false := by simp; omega
        clear hlt
        go_wp2_with fail
        refine HS.out.mono ?_
        rintro e w' ⟨rfl, rfl⟩
        go_wp2
        go_ret
        exact ⟨rfl, k, HK.out⟩
end Go.Proofs.YtaamihdibpioaaaGreat

/- value.Order and value.Same of any two values, the first one's kinds being values' kinds. -/
namespace Go.Proofs.YtaamihdibpioaaaGreat
set_option linter.unusedVariables false
open Go.RowKit

/-- Are two values the same? -/
def Val.same (v u : Val) : Bool := decide (v.ord u = 0)
end Go.Proofs.YtaamihdibpioaaaGreat

/- The document's answers on values: how many parts, how deep, how small. -/
namespace Go.Proofs.YtaamihdibpioaaaGreat
set_option linter.unusedVariables false
open Go.RowKit

mutual
/-- How deep, looked at so far. -/
def Val.depth : Val → Nat → Nat
  | .mk _ _ _ _ _ _ _ xs, far => Val.depthAll xs far + 1
def Val.depthAll : List Val → Nat → Nat
  | [], _ => 0
  | x :: xs, far => if far = 0 then 0 else max (x.depth (far - 1)) (Val.depthAll xs far)
end
theorem Val.depth_eq (v : Val) (far : Nat) : v.depth far = Val.depthAll v.xs far + 1 := by cases v; simp [Val.depth, Val.xs]
theorem Val.depthAll_0 (xs : List Val) : Val.depthAll xs 0 = 0 := by cases xs <;> simp [Val.depthAll]
theorem Val.depth_le : ∀ (far : Nat) (v : Val), v.depth far ≤ far + 1
  | 0, v => by rw [Val.depth_eq, Val.depthAll_0]; exact Nat.le_refl _
  | far + 1, v => by
    rw [Val.depth_eq]
    have : ∀ xs : List Val, Val.depthAll xs (far + 1) ≤ far + 1 := fun xs => by
      induction xs with
      | nil => simp [Val.depthAll]
      | cons x xs ih =>
        simp only [Val.depthAll, Nat.add_sub_cancel]
        rw [if_neg (by omega)]
        have := Val.depth_le far x
        omega
    have := this v.xs
    omega

set_option maxHeartbeats 1000000 in
set_option maxRecDepth 100000 in
theorem rcount_any : ∀ (d : Nat) (v : Val) (n : Nat) (w : World), v.sz ≤ d → n < 500 → v.In w →
    Calls Tryz.prog 93 #[v.agg, .int .i64 n] w fun e w' => IntBelow ((v.count n : Nat) : Int) w e w'
  | 0, v, n, w, hd, _, _ => by rw [Val.sz_eq] at hd; omega
  | d + 1, v, n, w, hd, hn, h => by
    obtain ⟨W, hW⟩ : ∃ W, W = w.alloc (.cells v.cells.toArray 37) := ⟨_, rfl⟩
    have hBW : Below w.heap.size w W := by rw [hW]; exact (Below.refl _ w).alloc (Nat.le_refl _) _
    have hb0 : Blk W w.heap.size 37 v.cells.toArray := by rw [hW]; exact Blk.new w 37 _
    obtain ⟨p, c, e5, hx⟩ := items_at (h.below hBW)
    obtain ⟨L, hL⟩ : ∃ L, L = v.xs.length := ⟨_, rfl⟩
    obtain ⟨p4, q4, e4⟩ := h.nslice
    have hxl := h.ok.2.2.2.2.2.1
    have hcw := Val.count_le v.sz v n (Nat.le_refl _) hn
    unfold Val.cells at hW hb0
    rw [e4, e5, ← hL] at hW hb0
    rw [← hL] at hxl
    unfold Val.agg
    rw [e4, e5, ← hL]
    have HX := Lib.hid hx; have HL := Lib.hid hL; have HW := Lib.hid hW; have HBW := Lib.hid hBW; have HB0 := Lib.hid hb0; have HC := Lib.hid (Val.count_eq v n)
    have HM := Lib.hid (show ∀ x, x ∈ v.xs → x.sz ≤ d from fun x hx => by have := Val.size_mem hx; omega)
    obtain ⟨hcw1, hcw2⟩ := hcw
    obtain ⟨cn, hcn⟩ : ∃ cn, cn = v.count n := ⟨_, rfl⟩
    rw [← hcn] at HC hcw1 hcw2 ⊢
    clear hx hL hW hBW hb0 e4 e5 h hd hcn
    go_enter Tryz.func93, Tryz.ntmps93
    go_wp2_with fail
    rw [← HW.out]
    go_loopw [1, 5] (fun nv iv wr => ∃ i m : Nat, nv = .int .i64 (m : Int) ∧ iv = .int .i64 (i : Int) ∧ i ≤ L ∧ m ≤ 500 ∧ Hid (Val.countAll (v.xs.drop i) m = cn) ∧ Hid (Below W.heap.size W wr)) (fun _ iv _ => L - (intOf iv).toNat)
    case atStart => exact ⟨0, n + 1, by simp, rfl, by omega, by omega, Lib.hid (by rw [HC.out]; rfl), Lib.hid (Below.refl _ _)⟩
    case round =>
      obtain ⟨i, m, rfl, rfl, hi, hm, HR, HB⟩ := hrel
      have hz := HB0.out.lt
      have c5 := (HB0.out.below HB.out hz).cell 5
      simp only [List.getElem?_toArray, List.getElem?_cons_zero, List.getElem?_cons_succ] at c5
      clear hz
      by_cases hlt : i < L
      · have hil : i < v.xs.length := by rw [← HL.out]; exact hlt
        by_cases h500 : 500 ≤ m
        · have HE : Hid (cn = m) := Lib.hid (by rw [← HR.out, Val.countAll_ge h500])
          have hge : decide ((m : Int) < 500) = false := by simp; omega
          clear hil
          go_wp2_with fail
          go_ret
          exact ⟨by rw [HE.out]; rfl, HBW.out.trans (HB.out.mono HBW.out.size)⟩
        · have hlt5 : decide ((m : Int) < 500) = true := by simp; omega
          obtain ⟨xb, xo, rfl, hpx, hlc⟩ := HX.out i hil
          rw [← HL.out] at hlc
          obtain ⟨x, hxx⟩ : ∃ x, x = v.xs[i]'hil := ⟨_, rfl⟩
          have hcl := Val.count_le d (v.xs[i]'hil) m (HM.out _ (by simp)) (by omega)
          have HR2 : Hid (Val.countAll (v.xs.drop (i + 1)) ((v.xs[i]'hil).count m) = cn) := Lib.hid (by
            rw [← HR.out, drop_cons hil]; simp [Val.countAll, h500])
          have hsz := HM.out (v.xs[i]'hil) (by simp)
          rw [← hxx] at hpx hcl HR2 hsz
          have hpw := hpx.below HB.out
          have d0 := hpw.c0; have d1 := hpw.c1; have d2 := hpw.c2; have d3 := hpw.c3; have d4 := hpw.c4; have d5 := hpw.c5
          obtain ⟨r4, t4, g4⟩ := hpw.in.nslice
          obtain ⟨r5, t5, g5⟩ := hpw.in.xslice
          rw [g4] at d4
          rw [g5] at d5
          have hc := rcount_any d x m wr hsz (by omega) hpw.in
          unfold Val.agg at hc
          rw [g4, g5] at hc
          obtain ⟨q, hq⟩ : ∃ q, q = x.count m := ⟨_, rfl⟩
          rw [← hq] at hc hcl HR2
          obtain ⟨hcl1, hcl2⟩ := hcl
          have HC2 := Lib.hid hc
          have hk0 : (0 : Int) ≤ (i : Int) := by omega
          have hk1 : (i : Int) < (L : Int) := by omega
          clear hil hpx hpw hc hq hxx g4 g5 hsz
          go_wp2_with fail
          refine HC2.out.mono ?_
          rintro e w1 ⟨rfl, hb1⟩
          have HB1 := Lib.hid (HB.out.trans (hb1.mono HB.out.size))
          clear hb1 d0 d1 d2 d3 d4 d5 c5 HC2
          go_wp2
          go_roundw
          case rel => exact ⟨i + 1, q, rfl, by go_num, by omega, by omega, HR2, HB1⟩
          case measure => simp [intOf]; omega
      · have HE : Hid (cn = m) := Lib.hid (by rw [← HR.out, List.drop_eq_nil_of_le (by rw [← HL.out]; omega)]; simp [Val.countAll])
        go_wp2_with fail
        go_ret
        exact ⟨by rw [HE.out]; rfl, HBW.out.trans (HB.out.mono HBW.out.size)⟩

theorem rparts_any (v : Val) (w : World) (h : v.In w) : Calls Tryz.prog 62 #[v.agg] w fun e w' => IntBelow ((v.count 0 : Nat) : Int) w e w' := by
  obtain ⟨W, hW⟩ : ∃ W, W = w.alloc (.cells v.cells.toArray 37) := ⟨_, rfl⟩
  have hBW : Below w.heap.size w W := by rw [hW]; exact (Below.refl _ w).alloc (Nat.le_refl _) _
  obtain ⟨p4, q4, e4⟩ := h.nslice
  obtain ⟨p5, q5, e5⟩ := h.xslice
  have hc := rcount_any v.sz v 0 W (Nat.le_refl _) (by omega) (h.below hBW)
  unfold Val.cells at hW
  unfold Val.agg at hc ⊢
  rw [e4, e5] at hW hc ⊢
  have HW := Lib.hid hW; have HBW := Lib.hid hBW; have HC := Lib.hid hc
  clear hW hBW hc e4 e5 h
  go_enter Tryz.func62, Tryz.ntmps62
  go_wp2_with fail
  rw [← HW.out]
  refine HC.out.mono ?_
  rintro e w1 ⟨rfl, hb1⟩
  have HB1 := Lib.hid (HBW.out.trans (hb1.mono HBW.out.size))
  clear hb1
  go_wp2
  go_ret
  exact ⟨rfl, HB1.out⟩

set_option maxHeartbeats 1000000 in
set_option maxRecDepth 100000 in
theorem depth_any : ∀ (d : Nat) (v : Val) (far : Nat) (w : World), v.sz ≤ d → far ≤ 40 → v.In w →
    Calls Tryz.prog 61 #[v.agg, .int .i64 far] w fun e w' => IntBelow ((v.depth far : Nat) : Int) w e w'
  | 0, v, far, w, hd, _, _ => by rw [Val.sz_eq] at hd; omega
  | d + 1, v, far, w, hd, hfar, h => by
    obtain ⟨W, hW⟩ : ∃ W, W = w.alloc (.cells v.cells.toArray 37) := ⟨_, rfl⟩
    have hBW : Below w.heap.size w W := by rw [hW]; exact (Below.refl _ w).alloc (Nat.le_refl _) _
    have hb0 : Blk W w.heap.size 37 v.cells.toArray := by rw [hW]; exact Blk.new w 37 _
    obtain ⟨p, c, e5, hx⟩ := items_at (h.below hBW)
    obtain ⟨L, hL⟩ : ∃ L, L = v.xs.length := ⟨_, rfl⟩
    obtain ⟨p4, q4, e4⟩ := h.nslice
    have hxl := h.ok.2.2.2.2.2.1
    unfold Val.cells at hW hb0
    rw [e4, e5, ← hL] at hW hb0
    rw [← hL] at hxl
    unfold Val.agg
    rw [e4, e5, ← hL]
    have hdl := Val.depth_le far v
    have hde := Val.depth_eq v far
    obtain ⟨D, hD⟩ : ∃ D, D = Val.depthAll v.xs far := ⟨_, rfl⟩
    rw [← hD] at hde
    rw [hde] at hdl ⊢
    have HX := Lib.hid hx; have HL := Lib.hid hL; have HW := Lib.hid hW; have HBW := Lib.hid hBW; have HB0 := Lib.hid hb0; have HD := Lib.hid hD
    have HM := Lib.hid (show ∀ x, x ∈ v.xs → x.sz ≤ d from fun x hx => by have := Val.size_mem hx; omega)
    clear hx hL hW hBW hb0 e4 e5 h hd hD hde
    go_enter Tryz.func61, Tryz.ntmps61
    go_wp2_with fail
    rw [← HW.out]
    go_loopw [5, 6] (fun nv iv wr => ∃ i m : Nat, nv = .int .i64 (m : Int) ∧ iv = .int .i64 (i : Int) ∧ i ≤ L ∧ m ≤ 41 ∧ Hid (max m (Val.depthAll (v.xs.drop i) far) = D) ∧ Hid (Below W.heap.size W wr)) (fun _ iv _ => L - (intOf iv).toNat)
    case atStart => exact ⟨0, 0, rfl, rfl, by omega, by omega, Lib.hid (by rw [HD.out, Nat.zero_max]; rfl), Lib.hid (Below.refl _ _)⟩
    case round =>
      obtain ⟨i, m, rfl, rfl, hi, hm, HR, HB⟩ := hrel
      have hz := HB0.out.lt
      have c5 := (HB0.out.below HB.out hz).cell 5
      simp only [List.getElem?_toArray, List.getElem?_cons_zero, List.getElem?_cons_succ] at c5
      clear hz
      by_cases hlt : i < L
      · have hil : i < v.xs.length := by rw [← HL.out]; exact hlt
        by_cases h0 : far = 0
        · have HE : Hid (D = m) := Lib.hid (by rw [← HR.out, h0, Val.depthAll_0, Nat.max_zero])
          subst h0
          clear hil
          go_wp2_with fail
          go_ret
          exact ⟨by rw [HE.out]; simp, HBW.out.trans (HB.out.mono HBW.out.size)⟩
        · have hf1 : decide ((0 : Int) < (far : Int)) = true := by simp; omega
          have hf2 : decide (0 < far) = true := by simp; omega
          obtain ⟨xb, xo, rfl, hpx, hlc⟩ := HX.out i hil
          rw [← HL.out] at hlc
          obtain ⟨x, hxx⟩ : ∃ x, x = v.xs[i]'hil := ⟨_, rfl⟩
          have hcl := Val.depth_le (far - 1) (v.xs[i]'hil)
          have HR2 : Hid (max (max m ((v.xs[i]'hil).depth (far - 1))) (Val.depthAll (v.xs.drop (i + 1)) far) = D) := Lib.hid (by
            rw [← HR.out, drop_cons hil]; simp only [Val.depthAll]; rw [if_neg h0, Nat.max_assoc])
          have hsz := HM.out (v.xs[i]'hil) (by simp)
          rw [← hxx] at hpx hcl HR2 hsz
          have hpw := hpx.below HB.out
          have d0 := hpw.c0; have d1 := hpw.c1; have d2 := hpw.c2; have d3 := hpw.c3; have d4 := hpw.c4; have d5 := hpw.c5
          obtain ⟨r4, t4, g4⟩ := hpw.in.nslice
          obtain ⟨r5, t5, g5⟩ := hpw.in.xslice
          rw [g4] at d4
          rw [g5] at d5
          have hc := depth_any d x (far - 1) wr hsz (by omega) hpw.in
          unfold Val.agg at hc
          rw [g4, g5, show (((far - 1 : Nat) : Nat) : Int) = (far : Int) - 1 from by omega] at hc
          obtain ⟨q, hq⟩ : ∃ q, q = x.depth (far - 1) := ⟨_, rfl⟩
          rw [← hq] at hc hcl HR2
          have HC2 := Lib.hid hc
          have hk0 : (0 : Int) ≤ (i : Int) := by omega
          have hk1 : (i : Int) < (L : Int) := by omega
          clear hil hpx hpw hc hq hxx g4 g5 hsz h0
          go_wp2_with fail
          refine HC2.out.mono ?_
          rintro e w1 ⟨rfl, hb1⟩
          have HB1 := Lib.hid (HB.out.trans (hb1.mono HB.out.size))
          clear hb1 d0 d1 d2 d3 d4 d5 c5 HC2
          go_wp2
          go_roundw
          case rel => exact ⟨i + 1, max m q, congrArg (Value.int .i64) (by split <;> omega), by go_num, by omega, by omega, HR2, HB1⟩
          case measure => simp [intOf]; omega
      · have HE : Hid (D = m) := Lib.hid (by rw [← HR.out, List.drop_eq_nil_of_le (by rw [← HL.out]; omega)]; simp [Val.depthAll])
        go_wp2_with fail
        go_ret
        exact ⟨by rw [HE.out]; simp, HBW.out.trans (HB.out.mono HBW.out.size)⟩

def Val.smallB (v : Val) : Bool := decide (v.depth 40 ≤ 30) && decide (v.count 0 < 500)
theorem small_any (v : Val) (w : World) (h : v.In w) : Calls Tryz.prog 41 #[v.agg] w fun e w' => BoolBelow v.smallB w e w' := by
  obtain ⟨W, hW⟩ : ∃ W, W = w.alloc (.cells v.cells.toArray 37) := ⟨_, rfl⟩
  have hBW : Below w.heap.size w W := by rw [hW]; exact (Below.refl _ w).alloc (Nat.le_refl _) _
  have hb0 : Blk W w.heap.size 37 v.cells.toArray := by rw [hW]; exact Blk.new w 37 _
  obtain ⟨p4, q4, e4⟩ := h.nslice
  obtain ⟨p5, q5, e5⟩ := h.xslice
  have hc := depth_any v.sz v 40 W (Nat.le_refl _) (by omega) (h.below hBW)
  have hp := fun (W' : World) (hb : Below W.heap.size W W') => rparts_any v W' ((h.below hBW).below hb)
  have hdl := Val.depth_le 40 v
  have hcl := Val.count_le v.sz v 0 (Nat.le_refl _) (by omega)
  unfold Val.smallB
  unfold Val.cells at hW hb0
  unfold Val.agg at hc hp ⊢
  rw [e4, e5] at hW hc hp hb0 ⊢
  obtain ⟨D, hD⟩ : ∃ D, D = v.depth 40 := ⟨_, rfl⟩
  obtain ⟨C, hC⟩ : ∃ C, C = v.count 0 := ⟨_, rfl⟩
  rw [← hD] at hdl hc ⊢
  rw [← hC] at hcl hp ⊢
  obtain ⟨hcl1, hcl2⟩ := hcl
  have HW := Lib.hid hW; have HBW := Lib.hid hBW; have HC := Lib.hid hc; have HP := Lib.hid hp; have HB0 := Lib.hid hb0
  clear hW hBW hc hp e4 e5 h hD hC hb0
  by_cases hd : D ≤ 30
  · have t1 : decide ((D : Int) ≤ 30) = true := by simp; omega
    go_enter Tryz.func41, Tryz.ntmps41
    go_wp2_with fail
    rw [← HW.out]
    refine HC.out.mono ?_
    rintro e w1 ⟨rfl, hb1⟩
    have HB1 := Lib.hid hb1
    have hb2 := HB0.out.below hb1 HB0.out.lt
    have c0 := hb2.cell 0; have c1 := hb2.cell 1; have c2 := hb2.cell 2; have c3 := hb2.cell 3; have c4 := hb2.cell 4; have c5 := hb2.cell 5
    simp only [List.getElem?_toArray, List.getElem?_cons_zero, List.getElem?_cons_succ] at c0 c1 c2 c3 c4 c5
    clear hb1 hb2
    go_wp2_with fail
    refine (HP.out _ HB1.out).mono ?_
    rintro e w2 ⟨rfl, hb2⟩
    have HB2 := Lib.hid (HBW.out.trans ((HB1.out.mono HBW.out.size).trans (hb2.mono (Nat.le_trans HBW.out.size HB1.out.size))))
    clear hb2
    by_cases h5 : C < 500
    · have t2 : decide ((C : Int) < 500) = true := by simp; omega
      have t3 : (decide (D ≤ 30) && decide (C < 500)) = true := by simp; omega
      have HT := Lib.hid t3
      clear t3
      go_wp2
      go_ret
      exact ⟨by rw [HT.out]; rfl, HB2.out⟩
    · have t2 : decide ((C : Int) < 500) = false := by simp; omega
      have t3 : (decide (D ≤ 30) && decide (C < 500)) = false := by simp; omega
      have HT := Lib.hid t3
      clear t3
      go_wp2
      go_ret
      exact ⟨by rw [HT.out]; rfl, HB2.out⟩
  · have t1 : decide ((D : Int) ≤ 30) = false := by simp; omega
    have t3 : (decide (D ≤ 30) && decide (C < 500)) = false := by simp; omega
    rw [t3]
    clear t3
    go_enter Tryz.func41, Tryz.ntmps41
    go_wp2_with fail
    rw [← HW.out]
    refine HC.out.mono ?_
    rintro e w1 ⟨rfl, hb1⟩
    have HB1 := Lib.hid (HBW.out.trans (hb1.mono HBW.out.size))
    clear hb1
    go_wp2
    go_ret
    exact ⟨rfl, HB1.out⟩
end Go.Proofs.YtaamihdibpioaaaGreat

/- The document's answers on types: how many parts, how deep, how small (printed by wip/gen_ty2.py from XRefSmall). -/
namespace Go.Proofs.YtaamihdibpioaaaGreat
set_option linter.unusedVariables false
open Go.RowKit

mutual
/-- How deep, looked at so far. -/
def Ty.depth : Ty → Nat → Nat
  | .mk _ _ _ _ xs, far => Ty.depthAll xs far + 1
def Ty.depthAll : List Ty → Nat → Nat
  | [], _ => 0
  | x :: xs, far => if far = 0 then 0 else max (x.depth (far - 1)) (Ty.depthAll xs far)
end
theorem Ty.depth_eq (v : Ty) (far : Nat) : v.depth far = Ty.depthAll v.xs far + 1 := by cases v; simp [Ty.depth, Ty.xs]
theorem Ty.depthAll_0 (xs : List Ty) : Ty.depthAll xs 0 = 0 := by cases xs <;> simp [Ty.depthAll]
theorem Ty.depth_le : ∀ (far : Nat) (v : Ty), v.depth far ≤ far + 1
  | 0, v => by rw [Ty.depth_eq, Ty.depthAll_0]; exact Nat.le_refl _
  | far + 1, v => by
    rw [Ty.depth_eq]
    have : ∀ xs : List Ty, Ty.depthAll xs (far + 1) ≤ far + 1 := fun xs => by
      induction xs with
      | nil => simp [Ty.depthAll]
      | cons x xs ih =>
        simp only [Ty.depthAll, Nat.add_sub_cancel]
        rw [if_neg (by omega)]
        have := Ty.depth_le far x
        omega
    have := this v.xs
    omega

def Ty.smallB (v : Ty) : Bool := decide (v.depth 40 ≤ 30) && decide (v.count 0 < 500)
end Go.Proofs.YtaamihdibpioaaaGreat

/- The document's answers on expressions: how many parts, how deep, how small (printed by wip/gen_exp2.py from XRefTSmall). -/
namespace Go.Proofs.YtaamihdibpioaaaGreat
set_option linter.unusedVariables false
open Go.RowKit

mutual
/-- How deep, looked at so far. -/
def Exp.depth : Exp → Nat → Nat
  | .mk _ _ _ _ _ _ xs, far => Exp.depthAll xs far + 1
def Exp.depthAll : List Exp → Nat → Nat
  | [], _ => 0
  | x :: xs, far => if far = 0 then 0 else max (x.depth (far - 1)) (Exp.depthAll xs far)
end
theorem Exp.depth_eq (v : Exp) (far : Nat) : v.depth far = Exp.depthAll v.xs far + 1 := by cases v; simp [Exp.depth, Exp.xs]
theorem Exp.depthAll_0 (xs : List Exp) : Exp.depthAll xs 0 = 0 := by cases xs <;> simp [Exp.depthAll]
theorem Exp.depth_le : ∀ (far : Nat) (v : Exp), v.depth far ≤ far + 1
  | 0, v => by rw [Exp.depth_eq, Exp.depthAll_0]; exact Nat.le_refl _
  | far + 1, v => by
    rw [Exp.depth_eq]
    have : ∀ xs : List Exp, Exp.depthAll xs (far + 1) ≤ far + 1 := fun xs => by
      induction xs with
      | nil => simp [Exp.depthAll]
      | cons x xs ih =>
        simp only [Exp.depthAll, Nat.add_sub_cancel]
        rw [if_neg (by omega)]
        have := Exp.depth_le far x
        omega
    have := this v.xs
    omega

end Go.Proofs.YtaamihdibpioaaaGreat
