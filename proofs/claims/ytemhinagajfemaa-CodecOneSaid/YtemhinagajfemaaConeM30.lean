/- How numbers, strings, names stand to one another: what Go's own comparing functions answer. -/
import Derived.Test.YtemhinagajfemaaConeM16
import Derived.Lib.Bytealg
namespace Go.Proofs.Ytemhinagajfemaa
set_option linter.unusedVariables false
open Go.RowKit

def sgnI (a b : Int) : Int := if a < b then -1 else if b < a then 1 else 0
theorem nan_int (a : Int) (w : World) : Calls Try.prog 125 #[.int .i64 a] w fun e w' => e = .returned (.bool false) ∧ w = w' := by
  go_enter Try.func125, Try.ntmps125
  go_wp2
  go_ret
  exact ⟨rfl, rfl⟩
theorem nan_int64 (a : Int) (w : World) : Calls Try.prog 131 #[.int .i64 a] w fun e w' => e = .returned (.bool false) ∧ w = w' := by
  go_enter Try.func131, Try.ntmps131
  go_wp2
  go_ret
  exact ⟨rfl, rfl⟩
theorem nan_str (a : ByteArray) (w : World) : Calls Try.prog 135 #[.string a] w fun e w' => e = .returned (.bool false) ∧ w = w' := by
  go_enter Try.func135, Try.ntmps135
  go_wp2
  go_ret
  exact ⟨by simp, rfl⟩
theorem cmp_int (a b : Int) (w : World) : Calls Try.prog 118 #[.int .i64 a, .int .i64 b] w fun e w' => e = .returned (.int .i64 (sgnI a b)) ∧ w = w' := by
  rcases Int.lt_trichotomy a b with h | h | h
  · have e : sgnI a b = -1 := by unfold sgnI; rw [if_pos h]
    rw [e]
    have i1 : decide (a < b) = true := by simpa using h
    clear e h
    go_enter Try.func118, Try.ntmps118
    go_wp2_with (go_at_call 125; refine (nan_int _ _).mono ?_; rintro e w' ⟨rfl, rfl⟩)
    go_ret
    exact ⟨rfl, rfl⟩
  · subst h
    have e : sgnI a a = 0 := by unfold sgnI; simp
    rw [e]
    clear e
    go_enter Try.func118, Try.ntmps118
    go_wp2_with (go_at_call 125; refine (nan_int _ _).mono ?_; rintro e w' ⟨rfl, rfl⟩)
    go_ret
    exact ⟨rfl, rfl⟩
  · have e : sgnI a b = 1 := by unfold sgnI; rw [if_neg (by omega), if_pos h]
    rw [e]
    have i1 : decide (a < b) = false := by simp; omega
    have i2 : decide (b < a) = true := by simpa using h
    clear e h
    go_enter Try.func118, Try.ntmps118
    go_wp2_with (go_at_call 125; refine (nan_int _ _).mono ?_; rintro e w' ⟨rfl, rfl⟩)
    go_ret
    exact ⟨rfl, rfl⟩
theorem cmp_int64 (a b : Int) (w : World) : Calls Try.prog 126 #[.int .i64 a, .int .i64 b] w fun e w' => e = .returned (.int .i64 (sgnI a b)) ∧ w = w' := by
  rcases Int.lt_trichotomy a b with h | h | h
  · have e : sgnI a b = -1 := by unfold sgnI; rw [if_pos h]
    rw [e]
    have i1 : decide (a < b) = true := by simpa using h
    clear e h
    go_enter Try.func126, Try.ntmps126
    go_wp2_with (go_at_call 131; refine (nan_int64 _ _).mono ?_; rintro e w' ⟨rfl, rfl⟩)
    go_ret
    exact ⟨rfl, rfl⟩
  · subst h
    have e : sgnI a a = 0 := by unfold sgnI; simp
    rw [e]
    clear e
    go_enter Try.func126, Try.ntmps126
    go_wp2_with (go_at_call 131; refine (nan_int64 _ _).mono ?_; rintro e w' ⟨rfl, rfl⟩)
    go_ret
    exact ⟨rfl, rfl⟩
  · have e : sgnI a b = 1 := by unfold sgnI; rw [if_neg (by omega), if_pos h]
    rw [e]
    have i1 : decide (a < b) = false := by simp; omega
    have i2 : decide (b < a) = true := by simpa using h
    clear e h
    go_enter Try.func126, Try.ntmps126
    go_wp2_with (go_at_call 131; refine (nan_int64 _ _).mono ?_; rintro e w' ⟨rfl, rfl⟩)
    go_ret
    exact ⟨rfl, rfl⟩

/-- How two strings stand. -/
def scmp (a b : ByteArray) : Int := if Op.bytesLess a.toList b.toList = true then -1 else if (a.toList == b.toList) = true then 0 else 1
theorem cmp_str (a b : ByteArray) (w : World) : Calls Try.prog 133 #[.string a, .string b] w fun e w' => e = .returned (.int .i64 (scmp a b)) ∧ w = w' := by
  cases h1 : Op.bytesLess a.toList b.toList with
  | true =>
    have e : scmp a b = -1 := by unfold scmp; rw [if_pos h1]
    rw [e]
    clear e
    go_enter Try.func133, Try.ntmps133
    go_wp2_with (go_at_call 135; refine (nan_str _ _).mono ?_; rintro e w' ⟨rfl, rfl⟩)
    go_ret
    exact ⟨rfl, rfl⟩
  | false =>
    cases h2 : (a.toList == b.toList) with
    | false =>
      have e : scmp a b = 1 := by unfold scmp; rw [if_neg (by rw [h1]; simp), if_neg (by rw [h2]; simp)]
      rw [e]
      clear e
      go_enter Try.func133, Try.ntmps133
      go_wp2_with (go_at_call 135; refine (nan_str _ _).mono ?_; rintro e w' ⟨rfl, rfl⟩)
      go_ret
      exact ⟨rfl, rfl⟩
    | true =>
      have e : scmp a b = 0 := by unfold scmp; rw [if_neg (by rw [h1]; simp), if_pos h2]
      rw [e]
      clear e
      go_enter Try.func133, Try.ntmps133
      go_wp2_with (go_at_call 135; refine (nan_str _ _).mono ?_; rintro e w' ⟨rfl, rfl⟩)
      go_ret
      exact ⟨rfl, rfl⟩

/-- A kind without items that count. -/
def leafB (k : Int) : Bool := decide (1 ≤ k ∧ k ≤ 4)
theorem leaf_any (k : Int) (w : World) : Calls Try.prog 120 #[.int .i64 k] w fun e w' => e = .returned (.bool (leafB k)) ∧ w = w' := by
  have hl : leafB k = (decide (1 ≤ k) && decide (k ≤ 4)) := by unfold leafB; by_cases h1 : 1 ≤ k <;> by_cases h2 : k ≤ 4 <;> simp [h1, h2]
  rw [hl]
  clear hl
  by_cases h1 : 1 ≤ k
  · have i1 : decide (1 ≤ k) = true := by simpa using h1
    rw [i1]
    clear h1
    go_enter Try.func120, Try.ntmps120
    go_wp2
    go_ret
    exact ⟨by simp, rfl⟩
  · have i1 : decide (1 ≤ k) = false := by simpa using h1
    rw [i1]
    clear h1
    go_enter Try.func120, Try.ntmps120
    go_wp2
    go_ret
    exact ⟨by simp, rfl⟩

set_option maxRecDepth 100000 in
theorem bcmp_any (a b : ByteArray) (w : World) : Calls Try.prog 132 #[.string a, .string b] w fun e w' => e = .returned (.int .i64 (Lib.compareBytes a.data.toList b.data.toList)) ∧ w = w' := by
  go_enter Try.func132, Try.ntmps132
  go_wp2_with fail
  rw [run_callFunc_extern Try.func134 (by kernel_rfl) (by kernel_rfl) (by kernel_rfl) (e := Extern.BytealgCompare.compare) (by kernel_rfl), Lib.run_compareString]
  simp only [Result.andThen]
  rw [Oper.upon_value]
  go_wp2
  go_ret
  exact ⟨rfl, rfl⟩
theorem strcmp_any (a b : ByteArray) (w : World) : Calls Try.prog 127 #[.string a, .string b] w fun e w' => e = .returned (.int .i64 (Lib.compareBytes a.data.toList b.data.toList)) ∧ w = w' := by
  go_enter Try.func127, Try.ntmps127
  go_wp2_with (go_at_call 132; refine (bcmp_any _ _ _).mono ?_; rintro e w' ⟨rfl, rfl⟩)
  go_ret
  exact ⟨rfl, rfl⟩
end Go.Proofs.Ytemhinagajfemaa
