/- Whether a bool, or a float, may be a value. -/
import Derived.Test.YtemhinagajfemaaProg
import Derived.Test.YtemhinagajfemaaBase
import Derived.BigGuardPart
import Derived.Deep.QuietTactic
import Derived.BigQuiet
namespace Go.Proofs.Ytemhinagajfemaa
set_option linter.unusedVariables false
open Go.RowKit

set_option maxHeartbeats 1000000 in
theorem rank0 (w : World) : Calls Try.prog 130 #[.float .f64 0] w fun e w' => e = .returned (.tuple #[.int .i64 0, .int .i64 0]) ∧ w = w' := by
  have ho : FloatKind.f64.format.order 0 0 = some .eq := by decide +kernel
  have hq : ∀ W : World, (binOp .quo 43 (.float .f64 4607182418800017408) (.float .f64 0)).run Try.prog W = .ok (.float .f64 9218868437227405312) W := fun W => by kernel_rfl
  have hi : FloatKind.f64.format.order 9218868437227405312 0 = some .gt := by decide +kernel
  go_enter Try.func130, Try.ntmps130
  go_wp2
  go_ret2
  exact ⟨rfl, rfl⟩

set_option maxHeartbeats 1000000 in
theorem order00 (w : World) : Calls Try.prog 123 #[.float .f64 0, .float .f64 0] w fun e w' => e = .returned (.int .i64 0) ∧ w = w' := by
  go_enter Try.func123, Try.ntmps123
  go_wp2_with (go_at_call 130; refine (rank0 _).mono ?_; rintro e w' ⟨rfl, rfl⟩)
  go_ret
  exact ⟨rfl, rfl⟩

set_option maxHeartbeats 1000000 in
theorem counted_leaf (w : World) (g off n : Nat) (hn : n < 1000) (h : w.cell? ⟨g, off + 5, none⟩ = some (.slice none 0 0)) :
    Calls Try.prog 115 #[.pointer (some ⟨g, off, none⟩), .int .i64 n] w fun e w' => e = .returned (.int .i64 ((n + 1 : Nat) : Int)) ∧ w = w' := by
  have hw : IntKind.i64.wrap ((n : Int) + 1) = (n : Int) + 1 := IntWalk.i64_in _ (by omega)
  go_enter Try.func115, Try.ntmps115
  go_wp2_with fail
  go_loopw [1, 13] (fun nv iv wr => nv = .int .i64 ((n : Int) + 1) ∧ iv = .int .i64 0 ∧ wr = w) (fun _ _ _ => 0)
  case atStart => exact ⟨rfl, rfl, rfl⟩
  case round =>
    obtain ⟨rfl, rfl, rfl⟩ := hrel
    go_wp2
    go_ret
    exact ⟨by simp, rfl⟩

theorem parts_leaf (w : World) (k n : Int) (f : Nat) (s : ByteArray) :
    Calls Try.prog 95 #[.agg #[.int .i64 k, .int .i64 n, .float .f64 f, .string s, .slice none 0 0, .slice none 0 0]] w fun e w' => e = .returned (.int .i64 1) ∧ Below w.heap.size w w' := by
  have hc := counted_leaf (w.alloc (.cells #[.int .i64 k, .int .i64 n, .float .f64 f, .string s, .slice none 0 0, .slice none 0 0] 46)) w.heap.size 0 0 (by omega) (by rw [(Blk.new w 46 _).cell]; rfl)
  have HC := Lib.hid hc
  clear hc
  go_enter Try.func95, Try.ntmps95
  go_wp2_with fail
  refine HC.out.mono ?_
  rintro e w' ⟨rfl, rfl⟩
  go_wp2
  go_ret
  exact ⟨rfl, (Below.refl _ _).alloc (Nat.le_refl _) _⟩

/-- A bool's cells; a float's, that has nothing else. -/
def boolV (n : Int) : Value := .agg #[.int .i64 1, .int .i64 n, .float .f64 0, .string ByteArray.empty, .slice none 0 0, .slice none 0 0]
def floatV (f : Nat) : Value := .agg #[.int .i64 3, .int .i64 0, .float .f64 f, .string ByteArray.empty, .slice none 0 0, .slice none 0 0]

set_option maxHeartbeats 1000000 in
theorem bare_leaf0 (w : World) (g : Nat) (k n : Int) (f : Nat) (bn bf : Bool) (hn : bn = true ∨ n = 0) (hf : bf = true ∨ f = 0)
    (h : Blk w g 46 #[.int .i64 k, .int .i64 n, .float .f64 f, .string ByteArray.empty, .slice none 0 0, .slice none 0 0]) :
    Calls Try.prog 116 #[.pointer (some ⟨g, 0, none⟩), .bool bn, .bool bf, .bool false, .bool false] w fun e w' => e = .returned (.bool true) ∧ w = w' := by
  have c1 := h.cell 1; have c2 := h.cell 2; have c3 := h.cell 3; have c4 := h.cell 4; have c5 := h.cell 5
  simp at c1 c2 c3 c4 c5
  clear h
  cases bn <;> cases bf <;> simp at hn hf
  all_goals try subst hn
  all_goals try subst hf
  all_goals
    go_enter Try.func116, Try.ntmps116
    go_wp2_with (go_at_call 123; refine (order00 _).mono ?_; rintro e w' ⟨rfl, rfl⟩)
    go_ret
    exact ⟨rfl, rfl⟩

set_option maxHeartbeats 1000000 in
theorem right_bool (w : World) (g : Nat) (h : Blk w g 46 #[.int .i64 1, .int .i64 1, .float .f64 0, .string ByteArray.empty, .slice none 0 0, .slice none 0 0]) :
    Calls Try.prog 96 #[.pointer (some ⟨g, 0, none⟩), .int .i64 1] w fun e w' => e = .returned (.bool true) ∧ w = w' := by
  have c0 := h.cell 0; have c1 := h.cell 1
  simp at c0 c1
  have hb := Lib.hid (bare_leaf0 w g 1 1 0 true false (.inl rfl) (.inr rfl) h)
  clear h
  go_enter Try.func96, Try.ntmps96
  go_wp2_with fail
  refine hb.out.mono ?_
  rintro e w' ⟨rfl, rfl⟩
  go_wp2
  go_ret
  exact ⟨rfl, rfl⟩

set_option maxHeartbeats 1000000 in
theorem right_float (w : World) (g f : Nat) (h : Blk w g 46 #[.int .i64 3, .int .i64 0, .float .f64 f, .string ByteArray.empty, .slice none 0 0, .slice none 0 0]) :
    Calls Try.prog 96 #[.pointer (some ⟨g, 0, none⟩), .int .i64 1] w fun e w' => e = .returned (.bool true) ∧ w = w' := by
  have c0 := h.cell 0
  simp at c0
  have hb := Lib.hid (bare_leaf0 w g 3 0 f false true (.inr rfl) (.inl rfl) h)
  clear h
  go_enter Try.func96, Try.ntmps96
  go_wp2_with fail
  refine hb.out.mono ?_
  rintro e w' ⟨rfl, rfl⟩
  go_wp2
  go_ret
  exact ⟨rfl, rfl⟩

set_option maxHeartbeats 1000000 in
theorem rightf_leaf (w : World) (k n : Int) (f : Nat)
    (hr : ∀ (w : World) (g : Nat), Blk w g 46 #[.int .i64 k, .int .i64 n, .float .f64 f, .string ByteArray.empty, .slice none 0 0, .slice none 0 0] →
      Calls Try.prog 96 #[.pointer (some ⟨g, 0, none⟩), .int .i64 1] w fun e w' => e = .returned (.bool true) ∧ w = w') :
    Calls Try.prog 65 #[.agg #[.int .i64 k, .int .i64 n, .float .f64 f, .string ByteArray.empty, .slice none 0 0, .slice none 0 0]] w fun e w' => e = .returned (.bool true) ∧ Below w.heap.size w w' := by
  obtain ⟨W, hW⟩ : ∃ W, W = w.alloc (.cells #[.int .i64 k, .int .i64 n, .float .f64 f, .string ByteArray.empty, .slice none 0 0, .slice none 0 0] 46) := ⟨_, rfl⟩
  have hb : Blk W w.heap.size 46 #[.int .i64 k, .int .i64 n, .float .f64 f, .string ByteArray.empty, .slice none 0 0, .slice none 0 0] := by rw [hW]; exact Blk.new w 46 _
  have hB : Below w.heap.size w W := by rw [hW]; exact (Below.refl _ _).alloc (Nat.le_refl _) _
  have hp := parts_leaf W k n f ByteArray.empty
  have hlt := hb.lt
  have HW := Lib.hid hW; have HB := Lib.hid hb; have HBL := Lib.hid hB; have HP := Lib.hid hp; have HR := Lib.hid hr
  clear hW hb hB hp hr
  go_enter Try.func65, Try.ntmps65
  go_wp2_with fail
  rw [← HW.out]
  refine HP.out.mono ?_
  rintro e w2 ⟨rfl, hl⟩
  have hc := HR.out w2 w.heap.size (HB.out.below hl hlt)
  have HC := Lib.hid hc
  have HL := Lib.hid (HBL.out.trans (hl.mono HBL.out.size))
  clear hc hl HP HR HB HBL HW
  go_wp2_with fail
  refine HC.out.mono ?_
  rintro e w' ⟨rfl, rfl⟩
  go_wp2
  go_ret
  exact ⟨rfl, HL.out⟩

theorem right_bool1 (w : World) : Calls Try.prog 65 #[.agg #[.int .i64 1, .int .i64 1, .float .f64 0, .string ByteArray.empty, .slice none 0 0, .slice none 0 0]] w fun e w' => e = .returned (.bool true) ∧ Below w.heap.size w w' :=
  rightf_leaf w 1 1 0 right_bool
theorem right_float1 (w : World) (f : Nat) : Calls Try.prog 65 #[.agg #[.int .i64 3, .int .i64 0, .float .f64 f, .string ByteArray.empty, .slice none 0 0, .slice none 0 0]] w fun e w' => e = .returned (.bool true) ∧ Below w.heap.size w w' :=
  rightf_leaf w 3 0 f (fun w g => right_float w g f)
end Go.Proofs.Ytemhinagajfemaa
