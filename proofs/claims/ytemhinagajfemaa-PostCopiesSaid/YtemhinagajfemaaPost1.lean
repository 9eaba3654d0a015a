/- A box of messages as it lies in memory; a new one, its length, and the box that is none. -/
import Derived.Test.YtemhinagajfemaaValOrder5
namespace Go.Proofs.Ytemhinagajfemaa
set_option linter.unusedVariables false
open Go.RowKit

def flatM (ms : List (Val × Val)) : List Val := ms.flatMap fun m => [m.1, m.2]
/-- The cells of a box that holds some messages. -/
def boxCells (ms : List (Val × Val)) : List Value := rowCells (flatM ms ++ List.replicate (12 - 2 * ms.length) Val.zero) ++ [.int .i64 ms.length]
def BoxAt (w : World) (g : Nat) (ms : List (Val × Val)) : Prop :=
  Blk w g 107 (boxCells ms).toArray ∧ ms.length ≤ 6 ∧ ∀ m, m ∈ ms → (m.1.In w ∧ m.1.Sep (· ≠ g)) ∧ (m.2.In w ∧ m.2.Sep (· ≠ g))
theorem flatM_length (ms : List (Val × Val)) : (flatM ms).length = 2 * ms.length := by
  induction ms with
  | nil => rfl
  | cons m ms ih => simp [flatM] at ih ⊢; omega
theorem boxCells_length {ms : List (Val × Val)} (h : ms.length ≤ 6) : (boxCells ms).length = 73 := by
  unfold boxCells
  rw [List.length_append, rowCells_length, List.length_append, flatM_length, List.length_replicate]
  simp
  omega
theorem boxCells_last {ms : List (Val × Val)} (h : ms.length ≤ 6) : (boxCells ms)[72]? = some (.int .i64 ms.length) := by
  unfold boxCells
  have e : (rowCells (flatM ms ++ List.replicate (12 - 2 * ms.length) Val.zero)).length = 72 := by rw [rowCells_length, List.length_append, flatM_length, List.length_replicate]; omega
  rw [List.getElem?_append_right (by omega), e]
  rfl
theorem BoxAt.n {w : World} {g : Nat} {ms : List (Val × Val)} (h : BoxAt w g ms) : w.cell? ⟨g, 72, none⟩ = some (.int .i64 ms.length) := by
  rw [h.1.cell 72]
  simpa using boxCells_last h.2.1

def NewBox (w : World) (e : Ending) (w' : World) : Prop := e = .returned (.pointer (some ⟨w.heap.size, 0, none⟩)) ∧ BoxAt w' w.heap.size [] ∧ Below w.heap.size w w'
set_option maxRecDepth 100000 in
set_option maxHeartbeats 1000000 in
theorem new_any (w : World) : Calls Try.prog 25 #[] w fun e w' => NewBox w e w' := by
  go_enter Try.func25, Try.ntmps25
  go_wp2
  go_ret
  refine ⟨rfl, ⟨Blk.new w 107 _, by simp, fun m hm => by simp at hm⟩, (Below.refl _ _).alloc (Nat.le_refl _) _⟩
theorem len_any (w : World) (g : Nat) (ms : List (Val × Val)) (h : BoxAt w g ms) : Calls Try.prog 28 #[.pointer (some ⟨g, 0, none⟩)] w fun e w' => e = .returned (.int .i64 ms.length) ∧ w = w' := by
  have c := h.n
  clear h
  go_enter Try.func28, Try.ntmps28
  go_wp2
  go_ret
  exact ⟨rfl, rfl⟩
theorem len_nil (w : World) : Calls Try.prog 28 #[.pointer none] w fun e w' => e = .returned (.int .i64 0) ∧ w = w' := by
  go_enter Try.func28, Try.ntmps28
  go_wp2
  go_ret
  exact ⟨rfl, rfl⟩
theorem copy_nil (w : World) : Calls Try.prog 30 #[.pointer none] w fun e w' => e = .returned (.pointer none) ∧ w = w' := by
  go_enter Try.func30, Try.ntmps30
  go_wp2
  go_ret
  exact ⟨rfl, rfl⟩
theorem keys_nil (w : World) : Calls Try.prog 29 #[.pointer none] w fun e w' => e = .returned (.slice none 0 0) ∧ w = w' := by
  go_enter Try.func29, Try.ntmps29
  go_wp2_with (go_at_call 28; refine (len_nil _).mono ?_; rintro e w' ⟨rfl, rfl⟩)
  go_loopw [2, 6] (fun sv iv wr => sv = .slice none 0 0 ∧ iv = .int .i64 0 ∧ wr = w) (fun _ _ _ => 0)
  case atStart => exact ⟨rfl, rfl, rfl⟩
  case round =>
    obtain ⟨rfl, rfl, rfl⟩ := hrel
    go_wp2
    go_ret
    exact ⟨rfl, rfl⟩
theorem put_nil (v u : Val) (w : World) : Calls Try.prog 26 #[.pointer none, v.agg, u.agg] w fun e w' => IntBelow 1 w e w' := by
  unfold Val.agg
  go_enter Try.func26, Try.ntmps26
  go_wp2
  go_ret
  exact ⟨rfl, ((Below.refl _ _).alloc (Nat.le_refl _) _).alloc (by simp) _⟩
def NoneTaken (w : World) (e : Ending) (w' : World) : Prop := e = .returned (.tuple #[.agg #[.int .i64 0, .int .i64 0, .float .f64 0, .string ⟨#[]⟩, .slice none 0 0, .slice none 0 0], .bool false]) ∧ Below w.heap.size w w'
theorem take_nil (v : Val) (w : World) : Calls Try.prog 27 #[.pointer none, v.agg] w fun e w' => NoneTaken w e w' := by
  have hsf := run_store_flt
  unfold Val.agg
  go_enter Try.func27, Try.ntmps27
  go_wp2
  refine bodyPost_ret (v := .tuple #[.agg #[.int .i64 0, .int .i64 0, .float .f64 0, .string ⟨#[]⟩, .slice none 0 0, .slice none 0 0], .bool false]) (by simp [results, Try.results27, go_sem]) rfl ⟨rfl, ?_⟩
  exact ((Below.refl _ _).alloc (Nat.le_refl _) _).alloc (by simp) _
end Go.Proofs.Ytemhinagajfemaa
