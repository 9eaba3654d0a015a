/- types.caught, types.Join and types.Is of any two types. -/
import Derived.Test.YtjpdbhhjlnmacaaGreatTpM3
import Derived.Test.YtjpdbhhjlnmacaaGreatTpM20
import Derived.Test.YtjpdbhhjlnmacaaGreatTpM22
import Derived.Test.YtjpdbhhjlnmacaaGreatTpM31
import Derived.Defers
import Derived.Recover
import Derived.Laws.Pointers
namespace Go.Proofs.YtjpdbhhjlnmacaaGreat
set_option linter.unusedVariables false
open Go.RowKit

theorem as_errno' (W : World) (v : Value) : (Instr.typeAssert (.iface 37 v) 20 37 true).run Tryz.prog W = .ok (.tuple #[v, .bool true]) W := by kernel_rfl
theorem as_nil' (W : World) : (Instr.typeAssert .nilIface 20 37 true).run Tryz.prog W = .ok (.tuple #[.int .i64 0, .bool false]) W := by kernel_rfl

/-- The two results behind a catch. -/
def caughtW (w : World) (T E : Nat) (k : Int) : World := (((w.setCell ⟨T, 0, none⟩ (.int .i64 0)).setCell ⟨T, 1, none⟩ (.slice none 0 0)).setCell ⟨T, 2, none⟩ (.slice none 0 0)).setCell ⟨E, 0, none⟩ (.int .i64 k)
set_option maxHeartbeats 2000000 in
set_option maxRecDepth 20000 in
theorem caught_panicking (T E : Nat) (k : Int) (x0 x1 x2 y : Value) (older : List PanicEntry) (w : World) (hT : Blk w T 36 #[x0, x1, x2]) (hE : Blk w E 37 #[y]) (hne : T ≠ E) :
    CallsD Tryz.prog 27 #[.pointer (some ⟨T, 0, none⟩), .pointer (some ⟨E, 0, none⟩)] (.panicking ({ v := .iface 37 (.int .i64 k), recovered := false } :: older)) w fun e u' w' =>
      e = .returned (.tuple #[]) ∧ u' = .panicking ({ v := .iface 37 (.int .i64 k), recovered := true } :: older) ∧ w' = caughtW w T E k := by
  have c0 := hT.cell 0; have f0 := hT.frozen 0
  have h1 := hT.set_ 0 (.int .i64 0)
  have c1 := h1.cell 1; have f1 := h1.frozen 1
  have h2 := h1.set_ 1 (.slice none 0 0)
  have c2 := h2.cell 2; have f2 := h2.frozen 2
  have h3 := ((hE.far (p := ⟨T, 0, none⟩) (Ne.symm hne) (.int .i64 0)).far (p := ⟨T, 1, none⟩) (Ne.symm hne) (.slice none 0 0)).far (p := ⟨T, 2, none⟩) (Ne.symm hne) (.slice none 0 0)
  have c3 := h3.cell 0; have f3 := h3.frozen 0
  simp at c0 c1 c2 c3
  refine callsD_of_wpS Tryz.func27 rfl fun c₀ cs hu => ?_
  apply wpS_seq
  apply wpS_region
  simp [wpOpsS, go_sem, recoverD, hu, Tryz.ntmps27, Exit.thenS, as_errno']
  apply wpS_seq
  apply wpS_region
  simp [wpOpsS, go_sem, Exit.thenS]
  refine wpS_cond (t := true) (by simp [Act.eval]) ?_
  simp only [if_true]
  apply wpS_region
  simp [wpOpsS, go_sem, c0, f0, c1, f1, c2, f2, c3, f3, bodyPostS, results, Tryz.results27, caughtW]

set_option maxHeartbeats 1000000 in
set_option maxRecDepth 20000 in
theorem caught_idle (p q : Addr) (w : World) :
    CallsD Tryz.prog 27 #[.pointer (some p), .pointer (some q)] .returning w fun e u' w' => e = .returned (.tuple #[]) ∧ u' = .returning ∧ w' = w := by
  refine callsD_of_wpS Tryz.func27 rfl fun c₀ cs hu => ?_
  apply wpS_seq
  apply wpS_region
  simp [wpOpsS, go_sem, recoverD, hu, Tryz.ntmps27, Exit.thenS, as_nil']
  apply wpS_seq
  apply wpS_region
  simp [wpOpsS, go_sem, Exit.thenS]
  refine wpS_cond (t := false) (by simp [Act.eval]) ?_
  simp only [Bool.false_eq_true, if_false]
  refine wpS_of_wp (wp_skip ?_)
  cases c₀
  simp_all [bodyPostS, results, Tryz.results27]
end Go.Proofs.YtjpdbhhjlnmacaaGreat

/- The document's floats: the text "1p0". -/
namespace Go.Proofs.YtjpdbhhjlnmacaaGreat
set_option linter.unusedVariables false
open Go.RowKit

set_option maxHeartbeats 2000000 in
set_option maxRecDepth 100000 in
theorem num3_any (s : ByteArray) (c m : Nat) (w : World) (hs : s.size ≤ 2000) (h0 : 0 < s.size) (hc : byteAt s 0 = c) (hcm : (c = 48 ∧ m = 0) ∨ (c = 49 ∧ m = 1)) (hn : s.size = 1 ∨ (1 < s.size ∧ 57 < byteAt s 1)) :
    Calls Tryz.prog 131 #[.string s] w fun e w' => e = .returned (.tuple #[.int .u64 m, .int .i64 1, .string (s.extract 1 s.size)]) ∧ Below w.heap.size w w' := by
  have hb0 : ∀ h : 0 < s.size, (s[0]'h).toNat = c := fun h => by rw [byteAt_eq s 0 h]; exact hc
  have hb1 : ∀ h : 1 < s.size, (s[1]'h).toNat = byteAt s 1 := fun h => byteAt_eq s 1 h
  have HN := Lib.hid hn; have HCM := Lib.hid hcm; have HB0 := Lib.hid hb0; have HB1 := Lib.hid hb1
  clear hn hcm hc hb0 hb1
  go_enter Tryz.func131, Tryz.ntmps131
  go_wp2_with fail
  go_loopw [5, 6] (fun nv iv wr => ∃ i n : Nat, nv = .int .u64 (n : Int) ∧ iv = .int .i64 (i : Int) ∧ ((i = 0 ∧ n = 0) ∨ (i = 1 ∧ n = m)) ∧ wr = w) (fun _ iv _ => 1 - (intOf iv).toNat)
  case atStart => exact ⟨0, 0, rfl, rfl, .inl ⟨rfl, rfl⟩, rfl⟩
  case round =>
    obtain ⟨i, n, rfl, rfl, hi, rfl⟩ := hrel
    rcases hi with ⟨rfl, rfl⟩ | ⟨rfl, rfl⟩
    · have hz : (0 : Int) < (s.size : Int) := by omega
      have hb := HB0.out h0
      rcases HCM.out with ⟨rfl, rfl⟩ | ⟨rfl, rfl⟩
      all_goals
        go_wp2_with fail
        go_roundw
        case rel => exact ⟨1, _, rfl, by go_num, .inr ⟨rfl, rfl⟩, trivial⟩
        case measure => simp [intOf]
    · rcases HN.out with h1 | ⟨h1, h2⟩
      · have hz : decide ((1 : Int) < (s.size : Int)) = false := by simp; omega
        have hz2 : ¬ ((1 : Int) < (s.size : Int)) := by omega
        have hz3 : (1 : Int) ≤ (s.size : Int) := by omega
        clear h1
        go_wp2_with fail
        go_region
        all_goals
          go_wp2_with fail
          refine bodyPost_ret (v := .tuple #[.int .u64 n, .int .i64 1, .string (s.extract 1 s.size)]) (by simp [results, Tryz.results131, go_sem]) rfl ?_
          exact ⟨rfl, (Below.refl _ _).drew⟩
      · have hz : decide ((1 : Int) < (s.size : Int)) = true := by simp; omega
        have hz2 : (1 : Int) < (s.size : Int) := by omega
        have hz3 : (1 : Int) ≤ (s.size : Int) := by omega
        have hb := HB1.out h1
        have hc1 : decide ((48 : Int) ≤ (byteAt s 1 : Int)) = true := by simp; omega
        have hc2 : decide ((byteAt s 1 : Int) ≤ 57) = false := by simp; omega
        clear h2
        go_wp2_with fail
        go_region
        all_goals
          go_wp2_with fail
          refine bodyPost_ret (v := .tuple #[.int .u64 n, .int .i64 1, .string (s.extract 1 s.size)]) (by simp [results, Tryz.results131, go_sem]) rfl ?_
          exact ⟨rfl, (Below.refl _ _).drew⟩

set_option maxHeartbeats 4000000 in
set_option maxRecDepth 100000 in
theorem made_one (w : World) : Calls Tryz.prog 132 #[.bool false, .int .u64 1, .int .i64 0] w fun e w' => e = .returned (.tuple #[.float .f64 4607182418800017408, .int .i64 0]) ∧ w = w' := by
  go_enter Tryz.func132, Tryz.ntmps132
  go_wp2_with fail
  go_loopw [1, 2] (fun mv ev wr => mv = .int .u64 1 ∧ ev = .int .i64 0 ∧ wr = w) (fun _ _ _ => 0)
  case atStart => exact ⟨rfl, rfl, rfl⟩
  case round =>
    obtain ⟨rfl, rfl, rfl⟩ := hrel
    go_wp2_with fail
    go_loopw [1, 2] (fun mv ev w2 => ∃ j : Nat, mv = .int .u64 ((2 ^ j : Nat) : Int) ∧ ev = .int .i64 (-(j : Int)) ∧ j ≤ 52 ∧ w2 = wr) (fun _ ev _ => (52 + intOf ev).toNat)
    case atStart => exact ⟨0, rfl, rfl, by omega, rfl⟩
    case round =>
      obtain ⟨j, rfl, rfl, hj, rfl⟩ := hrel
      by_cases hlt : j < 52
      · have hp : (2 ^ j : Nat) < 4503599627370496 := by
          have : (2 ^ j : Nat) < 2 ^ 52 := Nat.pow_lt_pow_right (by omega) hlt
          simpa using this
        have h2 : decide (-1074 < -(j : Int)) = true := by simp; omega
        obtain ⟨q, hq⟩ : ∃ q : Nat, q = 2 ^ j := ⟨_, rfl⟩
        have hq2 : q * 2 = 2 ^ (j + 1) := by rw [hq, Nat.pow_succ]
        rw [← hq] at hp ⊢
        have h1 : decide ((q : Int) < 4503599627370496) = true := decide_eq_true (by omega)
        have HQ := Lib.hid hq2
        have hp2 : (q : Int) < 4503599627370496 := by omega
        have hp3 : (0 : Int) ≤ (q : Int) := by omega
        obtain ⟨Q, hQ⟩ : ∃ Q : Int, Q = (q : Int) := ⟨_, rfl⟩
        have HQ2 := Lib.hid hQ
        rw [← hQ] at h1 hp2 hp3 ⊢
        clear hq hq2 hQ hp
        go_wp2_with fail
        go_roundw
        case rel =>
          have e1 : ((2 ^ (j + 1) : Nat) : Int) = (q : Int) * 2 := by rw [← HQ.out]; omega
          exact ⟨j + 1, by rw [e1, ← HQ2.out], by go_num, by omega, trivial⟩
        case measure => simp [intOf]; omega
      · obtain rfl : j = 52 := by omega
        rw [show ((2 ^ 52 : Nat) : Int) = 4503599627370496 from by decide, show -((52 : Nat) : Int) = -52 from rfl]
        have hfrom : ∀ w : World, (callFunc 128 #[.int .u64 4607182418800017408]).run Tryz.prog w = .ok (.value (.float .f64 4607182418800017408)) w := frombits_run 4607182418800017408
        go_wp2_with fail
        refine bodyPost_ret (v := .tuple #[.float .f64 4607182418800017408, .int .i64 0]) (by simp [results, Tryz.results132, go_sem]) rfl ?_
        exact ⟨rfl, rfl⟩
end Go.Proofs.YtjpdbhhjlnmacaaGreat

/- The document's lexer: numbers of one digit, a float (printed by wip/gen_lex3.py). -/
namespace Go.Proofs.YtjpdbhhjlnmacaaGreat
set_option linter.unusedVariables false
open Go.RowKit

set_option maxHeartbeats 8000000 in
set_option maxRecDepth 100000 in
theorem num_one (s : ByteArray) (a : Nat) (w : World) (hs : s.size ≤ 2000) (ha : a < s.size) (c N : Nat) (hc : byteAt s a = c) (hcN : (c = 49 ∧ N = 1) ∨ (c = 50 ∧ N = 2)) (hr : RunTo s a (a + 1)) (hp : a + 1 = s.size ∨ (a + 1 < s.size ∧ byteAt s (a + 1) ≠ 112)) :
    Calls Tryz.prog 106 #[.string s, .agg #[.int .i64 1, .int .i64 (a : Int), .int .i64 (a : Int), .int .i64 0, .float .f64 0, .string ⟨#[]⟩]] w fun e w' => TokOut (Tok.mk 2 a ((a : Int) + 1) N 0 ⟨#[]⟩) 0 w e w' := by
  obtain ⟨W, hW⟩ : ∃ W, W = (w.alloc (.cells #[.int .i64 1, .int .i64 (a : Int), .int .i64 (a : Int), .int .i64 0, .float .f64 0, .string ⟨#[]⟩] 118)).alloc (.cells #[.int .i64 0, .int .i64 0, .int .i64 0, .int .i64 0, .float .f64 0, .string ⟨#[]⟩] 118) := ⟨_, rfl⟩
  have hj : L0 w W (Tok.mk 1 a a 0 0 ⟨#[]⟩) := by rw [hW]; exact l0_start w (Tok.mk 1 a a 0 0 ⟨#[]⟩)
  obtain ⟨A, hA⟩ : ∃ A, A = w.heap.size := ⟨_, rfl⟩
  have bt := hj.bt; have br := hj.br
  rw [← hA] at bt br
  have hby := byteAt_eq s
  have c0 := bt.cell 0; have c1 := bt.cell 1; have c2 := bt.cell 2; have c3 := bt.cell 3; have c4 := bt.cell 4; have c5 := bt.cell 5
  have d0 := bt.frozen 0; have d1 := bt.frozen 1; have d2 := bt.frozen 2; have d3 := bt.frozen 3; have d4 := bt.frozen 4; have d5 := bt.frozen 5
  have r0 := br.cell 0; have r1 := br.cell 1; have r2 := br.cell 2; have r3 := br.cell 3; have r4 := br.cell 4; have r5 := br.cell 5
  have s0 := br.frozen 0; have s1 := br.frozen 1; have s2 := br.frozen 2; have s3 := br.frozen 3; have s4 := br.frozen 4; have s5 := br.frozen 5
  simp at c0 c1 c2 c3 c4 c5 r0 r1 r2 r3 r4 r5
  have hsf := run_store_flt
  have HW := Lib.hid hW; have HA := Lib.hid hA; have HBW := Lib.hid hj.below; have BT := Lib.hid bt; have BR := Lib.hid br
  clear hW hj hA bt br
  have ha0 : (0 : Int) ≤ (a : Int) := by omega
  have HRUN := Lib.hid (run_any s a (a + 1) W hr hs)
  have HPP := Lib.hid hp
  have HC := Lib.hid hc
  have hNN : Hid ((c = 49 ∧ N = 1) ∨ (c = 50 ∧ N = 2)) := Lib.hid hcN
  clear hp hr hcN hby
  have q1 : (a : Int) + 1 - (a : Int) = 1 := by omega
  go_enter Tryz.func106, Tryz.ntmps106
  go_upto_region 1 with fail
  rw [← HW.out, ← HA.out]
  go_wp2_with fail
  refine HRUN.out.mono ?_
  rintro e w1 ⟨rfl, rfl⟩
  obtain ⟨W6, hW6⟩ : ∃ W6, W6 = (W.setCell ⟨A, 0, none⟩ (.int .i64 2)).setCell ⟨A, 2, none⟩ (.int .i64 ((a : Int) + 1)) := ⟨_, rfl⟩
  have bt6 : Blk W6 A 118 #[.int .i64 2, .int .i64 (a : Int), .int .i64 ((a : Int) + 1), .int .i64 0, .float .f64 0, .string ⟨#[]⟩] := by rw [hW6]; exact (BT.out.set_ 0 _).set_ 2 _
  have br6 : Blk W6 (A + 1) 118 #[.int .i64 0, .int .i64 0, .int .i64 0, .int .i64 0, .float .f64 0, .string ⟨#[]⟩] := by rw [hW6]; exact (BR.out.far (p := ⟨A, 0, none⟩) (by simp) _).far (p := ⟨A, 2, none⟩) (by simp) _
  have hb6 : Below w.heap.size w W6 := by rw [hW6]; exact (HBW.out.setCell (p := ⟨A, 0, none⟩) (by show w.heap.size ≤ A; have := HA.out; omega) _).setCell (p := ⟨A, 2, none⟩) (by show w.heap.size ≤ A; have := HA.out; omega) _
  have HW6 := Lib.hid hW6; have BT6 := Lib.hid bt6; have BR6 := Lib.hid br6; have HB6 := Lib.hid hb6
  clear hW6 bt6 br6 hb6 hc
  have hby : Hid (∀ h : a < s.size, (s[a]'h).toNat = c) := Lib.hid (fun h => by rw [byteAt_eq s a h]; exact HC.out)
  have HBY2 : Hid (∀ h : a + 1 < s.size, (s[a + 1]'h).toNat = byteAt s (a + 1)) := Lib.hid (fun h => byteAt_eq s (a + 1) h)
  have ecast : ((a + 1 : Nat) : Int) = (a : Int) + 1 := by omega
  rcases HPP.out with hp | ⟨hp, hp2⟩
  case' inl =>
    have h1 : decide (((a : Int) + 1) < (s.size : Int)) = false := by simp; omega
    have h2 : ¬ ((a : Int) + 1 < (s.size : Int)) := by omega
    clear hp
  case' inr =>
    have h1 : decide (((a : Int) + 1) < (s.size : Int)) = true := by simp; omega
    have h2 : (a : Int) + 1 < (s.size : Int) := by omega
    have h3 : (0 : Int) ≤ (a : Int) + 1 := by omega
    have h4 := HBY2.out hp
    have h5 : ((byteAt s (a + 1) : Int) == 112) = false := by simp; omega
    clear hp2
  all_goals
    rw [ecast]
    go_upto_region 15 with fail
    rw [← HW6.out]
    clear c0 c1 c2 c3 c4 c5 d0 d1 d2 d3 d4 d5 r0 r1 r2 r3 r4 r5 s0 s1 s2 s3 s4 s5
    have c0 := BT6.out.cell 0; have c1 := BT6.out.cell 1; have c2 := BT6.out.cell 2; have c3 := BT6.out.cell 3; have c4 := BT6.out.cell 4; have c5 := BT6.out.cell 5
    simp at c0 c1 c2 c3 c4 c5
    go_wp2_with fail
    go_loopw [10, 11] (fun nv iv wr => ∃ i m : Nat, nv = .int .u64 (m : Int) ∧ iv = .int .i64 (i : Int) ∧ ((i = a ∧ m = 0) ∨ (i = a + 1 ∧ m = N)) ∧ wr = W6) (fun _ iv _ => a + 1 - (intOf iv).toNat)
    case atStart => exact ⟨a, 0, rfl, rfl, .inl ⟨rfl, rfl⟩, rfl⟩
    case round =>
      obtain ⟨i, m, rfl, rfl, hi, rfl⟩ := hrel
      rcases hi with ⟨rfl, rfl⟩ | ⟨rfl, rfl⟩
      · have hA2 : (i : Int) < (s.size : Int) := by omega
        have h6 := hby.out ha
        have h7 : decide ((i : Int) < (i : Int) + 1) = true := by simp; omega
        have h8 : i < s.size := ha
        rcases hNN.out with ⟨rfl, rfl⟩ | ⟨rfl, rfl⟩
        all_goals
          go_wp2_with fail
          go_roundw
          case rel => exact ⟨i + 1, _, rfl, by go_num, .inr ⟨rfl, rfl⟩, trivial⟩
          case measure => simp [intOf]; try omega
      · have h7 : decide ((a : Int) + 1 < (a : Int) + 1) = false := by simp
        have h9 : decide ((9223372036854775808 : Int) ≤ (m : Int)) = false := by rcases hNN.out with ⟨_, rfl⟩ | ⟨_, rfl⟩ <;> decide
        have h10 : IntKind.i64.wrap (m : Int) = (m : Int) := by rcases hNN.out with ⟨_, rfl⟩ | ⟨_, rfl⟩ <;> decide
        clear c0 c1 c2 c3 c4 c5
        have c0 := BT6.out.cell 0; have c1 := BT6.out.cell 1; have c2 := BT6.out.cell 2; have c3 := BT6.out.cell 3; have c4 := BT6.out.cell 4; have c5 := BT6.out.cell 5
        have d0 := BT6.out.frozen 0; have d1 := BT6.out.frozen 1; have d2 := BT6.out.frozen 2; have d3 := BT6.out.frozen 3; have d4 := BT6.out.frozen 4; have d5 := BT6.out.frozen 5
        have r0 := BR6.out.cell 0; have r1 := BR6.out.cell 1; have r2 := BR6.out.cell 2; have r3 := BR6.out.cell 3; have r4 := BR6.out.cell 4; have r5 := BR6.out.cell 5
        have s0 := BR6.out.frozen 0; have s1 := BR6.out.frozen 1; have s2 := BR6.out.frozen 2; have s3 := BR6.out.frozen 3; have s4 := BR6.out.frozen 4; have s5 := BR6.out.frozen 5
        simp at c0 c1 c2 c3 c4 c5 r0 r1 r2 r3 r4 r5
        obtain ⟨W1, hW1⟩ : ∃ W1, W1 = (wr.setCell ⟨A, 3, none⟩ (.int .i64 (m : Int))) := ⟨_, rfl⟩
        have hb1 : Below w.heap.size w W1 := by rw [hW1]; exact (HB6.out.setCell (p := ⟨A, 3, none⟩) (by show w.heap.size ≤ A; have := HA.out; omega) (.int .i64 (m : Int)))
        have hk1 : Blk W1 (A + 1) 118 #[.int .i64 0, .int .i64 0, .int .i64 0, .int .i64 0, .float .f64 0, .string ⟨#[]⟩] := by rw [hW1]; exact (BR6.out.far (p := ⟨A, 3, none⟩) (by simp) (.int .i64 (m : Int)))
        have hbF := below6_set hb1 (g := A + 1) (by have := HA.out; omega) (.int .i64 2) (.int .i64 (a : Int)) (.int .i64 ((a : Int) + 1)) (.int .i64 (m : Int)) (.float .f64 0) (.string ⟨#[]⟩)
        have hkF := blk6_set hk1 (.int .i64 2) (.int .i64 (a : Int)) (.int .i64 ((a : Int) + 1)) (.int .i64 (m : Int)) (.float .f64 0) (.string ⟨#[]⟩)
        obtain ⟨WF, hWF⟩ : ∃ WF, WF = (((((W1.setCell ⟨A + 1, 0, none⟩ (.int .i64 2)).setCell ⟨A + 1, 1, none⟩ (.int .i64 (a : Int))).setCell ⟨A + 1, 2, none⟩ (.int .i64 ((a : Int) + 1))).setCell ⟨A + 1, 3, none⟩ (.int .i64 (m : Int))).setCell ⟨A + 1, 4, none⟩ (.float .f64 0)).setCell ⟨A + 1, 5, none⟩ (.string ⟨#[]⟩) := ⟨_, rfl⟩
        rw [← hWF] at hbF hkF
        rw [hW1] at hWF
        have HWF := Lib.hid hWF; have HBF := Lib.hid hbF; have HKF := Lib.hid hkF
        clear hWF hbF hkF hW1 hb1 hk1
        go_wp2_with fail
        rw [← HWF.out]
        have f0 := HKF.out.cell 0; have f1 := HKF.out.cell 1; have f2 := HKF.out.cell 2; have f3 := HKF.out.cell 3; have f4 := HKF.out.cell 4; have f5 := HKF.out.cell 5
        simp at f0 f1 f2 f3 f4 f5
        refine bodyPost_ret (v := .tuple #[.agg #[.int .i64 2, .int .i64 (a : Int), .int .i64 ((a : Int) + 1), .int .i64 (m : Int), .float .f64 0, .string ⟨#[]⟩], .int .i64 0]) (by simp [results, Tryz.results106, go_sem, f0, f1, f2, f3, f4, f5]) rfl ?_
        exact ⟨rfl, HBF.out⟩
end Go.Proofs.YtjpdbhhjlnmacaaGreat
