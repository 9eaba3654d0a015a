/- The document's answers on floats. -/
import Derived.Test.YtemhinagajfemaaConeM8
namespace Go.Proofs.Ytemhinagajfemaa
set_option linter.unusedVariables false
open Go.RowKit

theorem bits_run (f : Nat) (w : World) : (callFunc 74 #[.float .f64 f]).run Try.prog w = .ok (.value (.int .u64 (f : Nat))) w := by
  rw [run_callFunc_extern Try.func74 (by kernel_rfl) (by kernel_rfl) (by kernel_rfl) (e := Extern.MathFloatBits.float64bits) (by kernel_rfl)]
  rfl
theorem nan_word (f : Nat) : fnan f = decide ((18437736874454810624 : Int) < IntKind.u64.wrap ((f : Int) * 2)) := by
  unfold fnan
  rw [IntKind.wrap_u64]
  apply decide_eq_decide.2
  omega
theorem canon_word (x : Nat) : fcan x = bif fnan x then 9221120237041090560 else x := by
  unfold fcan
  cases fnan x <;> rfl
theorem key_neg (f : Nat) (hn : fnan f = false) (h : 9223372036854775808 ≤ f) (hf : f < 18446744073709551616) : fkey f = wrap64 (-1 - wrap64 (IntKind.u64.wrap ((f : Int) - 9223372036854775808))) := by
  unfold fkey wrap64
  rw [hn]
  have h2 : fneg f = true := by unfold fneg; have : f / 9223372036854775808 % 2 = 1 := by omega
                                simp [this]
  rw [h2, IntKind.wrap_u64]
  simp only [Bool.false_eq_true, if_false, if_true]
  omega
theorem key_pos (f : Nat) (hn : fnan f = false) (h : f < 9223372036854775808) : fkey f = wrap64 (f : Int) := by
  unfold fkey wrap64
  rw [hn]
  have h2 : fneg f = false := by unfold fneg; have : f / 9223372036854775808 % 2 = 0 := by omega
                                 simp [this]
  rw [h2]
  simp only [Bool.false_eq_true, if_false]
  omega
theorem fkey_i64 (f : Nat) : -9223372036854775808 ≤ fkey f ∧ fkey f ≤ 9223372036854775807 := by
  unfold fkey
  split
  · omega
  · split <;> omega
set_option maxHeartbeats 1000000 in
set_option maxRecDepth 100000 in
theorem rnan_any (f : Nat) (w : World) : Calls Try.prog 103 #[.float .f64 f] w fun e w' => e = .returned (.bool (fnan f)) ∧ w = w' := by
  rw [nan_word]
  go_enter Try.func103, Try.ntmps103
  go_wp2_with fail
  rw [bits_run, Oper.upon_value]
  go_wp2_with fail
  go_ret
  exact ⟨rfl, rfl⟩
set_option maxHeartbeats 1000000 in
set_option maxRecDepth 100000 in
theorem rcanon_any (f : Nat) (w : World) : Calls Try.prog 75 #[.float .f64 f] w fun e w' => e = .returned (.float .f64 (fcan f)) ∧ w = w' := by
  rw [canon_word]
  have HN := Lib.hid (rnan_any f w)
  cases h : fnan f with
  | true =>
    rw [h] at HN
    clear h
    go_enter Try.func75, Try.ntmps75
    go_wp2_with fail
    refine HN.out.mono ?_
    rintro e w' ⟨rfl, rfl⟩
    go_wp2_with fail
    rw [frombits_can, Oper.upon_value]
    go_wp2_with fail
    go_ret
    exact ⟨rfl, rfl⟩
  | false =>
    rw [h] at HN
    clear h
    go_enter Try.func75, Try.ntmps75
    go_wp2_with fail
    refine HN.out.mono ?_
    rintro e w' ⟨rfl, rfl⟩
    go_wp2
    go_ret
    exact ⟨rfl, rfl⟩
def fsame (a b : Nat) : Bool := decide (fcan a = fcan b)
set_option maxHeartbeats 1000000 in
set_option maxRecDepth 100000 in
theorem rsame_any (a b : Nat) (w : World) : Calls Try.prog 112 #[.float .f64 a, .float .f64 b] w fun e w' => e = .returned (.bool (fsame a b)) ∧ w = w' := by
  have HA := Lib.hid (rcanon_any a w); have HB := Lib.hid (rcanon_any b w)
  have he : fsame a b = (((fcan a : Nat) : Int) == ((fcan b : Nat) : Int)) := by
    unfold fsame
    rw [Bool.eq_iff_iff]
    simp only [decide_eq_true_eq, beq_iff_eq]
    omega
  rw [he]
  go_enter Try.func112, Try.ntmps112
  go_wp2_with fail
  refine HA.out.mono ?_
  rintro e w' ⟨rfl, rfl⟩
  go_wp2_with fail
  rw [bits_run, Oper.upon_value]
  go_wp2_with fail
  refine HB.out.mono ?_
  rintro e w' ⟨rfl, rfl⟩
  go_wp2_with fail
  rw [bits_run, Oper.upon_value]
  go_wp2_with fail
  go_ret
  exact ⟨rfl, rfl⟩
set_option maxHeartbeats 1000000 in
set_option maxRecDepth 100000 in
theorem rkey_any (f : Nat) (w : World) (hf : f < 18446744073709551616) : Calls Try.prog 114 #[.float .f64 f] w fun e w' => e = .returned (.int .i64 (fkey f)) ∧ w = w' := by
  have HN := Lib.hid (rnan_any f w)
  cases h : fnan f with
  | true =>
    have e : fkey f = 9223372036854775807 := by unfold fkey; rw [h]; rfl
    rw [e]
    rw [h] at HN
    clear h e hf
    go_enter Try.func114, Try.ntmps114
    go_wp2_with fail
    refine HN.out.mono ?_
    rintro e w' ⟨rfl, rfl⟩
    go_wp2
    go_ret
    exact ⟨rfl, rfl⟩
  | false =>
    by_cases hl : 9223372036854775808 ≤ f
    · have e := key_neg f h hl hf
      rw [e]
      rw [h] at HN
      have t1 : decide ((9223372036854775808 : Int) ≤ (f : Int)) = true := by simp; omega
      have HE : Hid (fkey f = _) := Lib.hid e
      clear h hf e hl
      go_enter Try.func114, Try.ntmps114
      go_wp2_with fail
      refine HN.out.mono ?_
      rintro e w' ⟨rfl, rfl⟩
      go_wp2_with fail
      rw [bits_run, Oper.upon_value]
      go_wp2_with fail
      go_ret
      exact ⟨rfl, rfl⟩
    · have e := key_pos f h (by omega)
      rw [e]
      rw [h] at HN
      have t1 : decide ((9223372036854775808 : Int) ≤ (f : Int)) = false := by simp; omega
      clear h hf e hl
      go_enter Try.func114, Try.ntmps114
      go_wp2_with fail
      refine HN.out.mono ?_
      rintro e w' ⟨rfl, rfl⟩
      go_wp2_with fail
      rw [bits_run, Oper.upon_value]
      go_wp2_with fail
      go_ret
      exact ⟨rfl, rfl⟩
set_option maxHeartbeats 1000000 in
set_option maxRecDepth 100000 in
theorem rorder_any (a b : Nat) (w : World) (ha : a < 18446744073709551616) (hb : b < 18446744073709551616) : Calls Try.prog 92 #[.float .f64 a, .float .f64 b] w fun e w' => e = .returned (.int .i64 (ford a b)) ∧ w = w' := by
  have HA := Lib.hid (rkey_any a w ha); have HB := Lib.hid (rkey_any b w hb)
  unfold ford
  obtain ⟨x, hx⟩ : ∃ x, x = fkey a := ⟨_, rfl⟩
  obtain ⟨y, hy⟩ : ∃ y, y = fkey b := ⟨_, rfl⟩
  rw [← hx] at HA ⊢
  rw [← hy] at HB ⊢
  clear hx hy ha hb
  by_cases h1 : x < y
  · rw [if_pos h1]
    have t1 : decide (x < y) = true := by simpa using h1
    clear h1
    go_enter Try.func92, Try.ntmps92
    go_wp2_with fail
    refine HA.out.mono ?_
    rintro e w' ⟨rfl, rfl⟩
    go_wp2_with fail
    refine HB.out.mono ?_
    rintro e w' ⟨rfl, rfl⟩
    go_wp2
    go_ret
    exact ⟨rfl, rfl⟩
  · rw [if_neg h1]
    have t1 : decide (x < y) = false := by simpa using h1
    by_cases h2 : y < x
    · rw [if_pos h2]
      have t2 : decide (y < x) = true := by simpa using h2
      clear h1 h2
      go_enter Try.func92, Try.ntmps92
      go_wp2_with fail
      refine HA.out.mono ?_
      rintro e w' ⟨rfl, rfl⟩
      go_wp2_with fail
      refine HB.out.mono ?_
      rintro e w' ⟨rfl, rfl⟩
      go_wp2
      go_ret
      exact ⟨rfl, rfl⟩
    · rw [if_neg h2]
      have t2 : decide (y < x) = false := by simpa using h2
      clear h1 h2
      go_enter Try.func92, Try.ntmps92
      go_wp2_with fail
      refine HA.out.mono ?_
      rintro e w' ⟨rfl, rfl⟩
      go_wp2_with fail
      refine HB.out.mono ?_
      rintro e w' ⟨rfl, rfl⟩
      go_wp2
      go_ret
      exact ⟨rfl, rfl⟩
end Go.Proofs.Ytemhinagajfemaa
