/- How two that wait stand to one another: timer.order. -/
import Derived.Test.YtbngcepekaicjaaProg
import Derived.Test.YtbngcepekaicjaaBase
import Derived.Test.YtbngcepekaicjaaTmHeap
import Derived.RegionTactic
import Derived.BigRegion
import Derived.KernelRfl
import Derived.Deep.QuietTactic
import Derived.BigQuiet
import Derived.BigGuardPart
import Derived.LoopTactic
import Derived.Deep.RegionHeld3
namespace Go.Proofs.Ytbngcepekaicjaa
set_option linter.unusedVariables false
open Go.RowKit

def IntBelow (n : Int) (w : World) (e : Ending) (w' : World) : Prop := e = .returned (.int .i64 n) ∧ Below w.heap.size w w'
theorem ret_int {k : IntKind} {a b : Int} (h : a = b) : Ending.returned (.int k a) = .returned (.int k b) := by rw [h]
theorem nan_int (a : Int) (w : World) : Calls Try.prog 45 #[.int .i64 a] w fun e w' => e = .returned (.bool false) ∧ w = w' := by
  go_enter Try.func45, Try.ntmps45
  go_wp2
  go_ret
  exact ⟨rfl, rfl⟩
theorem cmp_int (a b : Int) (w : World) : Calls Try.prog 34 #[.int .i64 a, .int .i64 b] w fun e w' => e = .returned (.int .i64 (sgnI a b)) ∧ w = w' := by
  rcases Int.lt_trichotomy a b with h | h | h
  · have e : sgnI a b = -1 := by unfold sgnI; rw [if_pos h]
    rw [e]
    have i1 : decide (a < b) = true := by simpa using h
    clear e h
    go_enter Try.func34, Try.ntmps34
    go_wp2_with (go_at_call 45; refine (nan_int _ _).mono ?_; rintro e w' ⟨rfl, rfl⟩)
    go_ret
    exact ⟨rfl, rfl⟩
  · subst h
    have e : sgnI a a = 0 := by unfold sgnI; simp
    rw [e]
    clear e
    go_enter Try.func34, Try.ntmps34
    go_wp2_with (go_at_call 45; refine (nan_int _ _).mono ?_; rintro e w' ⟨rfl, rfl⟩)
    go_ret
    exact ⟨rfl, rfl⟩
  · have e : sgnI a b = 1 := by unfold sgnI; rw [if_neg (by omega), if_pos h]
    rw [e]
    have i1 : decide (a < b) = false := by simp; omega
    have i2 : decide (b < a) = true := by simpa using h
    clear e h
    go_enter Try.func34, Try.ntmps34
    go_wp2_with (go_at_call 45; refine (nan_int _ _).mono ?_; rintro e w' ⟨rfl, rfl⟩)
    go_ret
    exact ⟨rfl, rfl⟩

/-- cmp.Or of two numbers. -/
def or2 (x y : Int) : Int := if x ≠ 0 then x else y
def OrP (x y : Int) (k : Nat) : Prop := (1 ≤ k → x = 0) ∧ (2 ≤ k → y = 0)
theorem or_any (b : Nat) (x y : Int) (w : World) (h0 : w.cell? ⟨b, 0, none⟩ = some (.int .i64 x)) (h1 : w.cell? ⟨b, 1, none⟩ = some (.int .i64 y)) :
    Calls Try.prog 33 #[.slice (some ⟨b, 0, none⟩) 2 2] w fun e w' => e = .returned (.int .i64 (or2 x y)) ∧ w = w' := by
  obtain ⟨r, hr⟩ : ∃ r, r = or2 x y := ⟨_, rfl⟩
  rw [← hr]
  have HR := Lib.hid hr
  clear hr
  go_enter Try.func33, Try.ntmps33
  go_wp2
  go_loop [8] (fun iv => ∃ k : Nat, k ≤ 2 ∧ iv = .int .i64 k ∧ OrP x y k) (fun iv => 2 - (intOf iv).toNat)
  case atStart => exact ⟨0, by omega, rfl, fun h => absurd h (by omega), fun h => absurd h (by omega)⟩
  case round =>
    obtain ⟨k, hk, rfl, hp⟩ := hrel
    have HP := Lib.hid hp
    clear hp
    rcases (by omega : k = 0 ∨ k = 1 ∨ k = 2) with rfl | rfl | rfl
    · by_cases hz : x = 0
      · have HZ := Lib.hid hz
        have i2 : (x != 0) = false := by simpa using hz
        clear hz
        go_wp2
        go_round
        case rel => exact ⟨1, by omega, rfl, fun _ => HZ.out, fun h => absurd h (by omega)⟩
        case measure => simp [intOf]
      · have HZ := Lib.hid hz
        have i2 : (x != 0) = true := by simpa using hz
        clear hz
        go_wp2
        go_ret
        exact ⟨ret_int (by rw [HR.out]; unfold or2; rw [if_pos HZ.out]), rfl⟩
    · have HX := Lib.hid (HP.out.1 (by omega))
      by_cases hz : y = 0
      · have HZ := Lib.hid hz
        have i2 : (y != 0) = false := by simpa using hz
        clear hz
        go_wp2
        go_round
        case rel => exact ⟨2, by omega, rfl, fun _ => HX.out, fun _ => HZ.out⟩
        case measure => simp [intOf]
      · have HZ := Lib.hid hz
        have i2 : (y != 0) = true := by simpa using hz
        clear hz
        go_wp2
        go_ret
        exact ⟨ret_int (by rw [HR.out]; unfold or2; rw [if_neg (by simp [HX.out])]), rfl⟩
    · go_wp2
      go_ret
      exact ⟨ret_int (by rw [HR.out]; unfold or2; rw [if_neg (by simp [HP.out.1 (by omega)]), HP.out.2 (by omega)]), rfl⟩

theorem or_ord (a b : Wt) : or2 (sgnI a.2 b.2) (sgnI a.1 b.1) = ordW a b := rfl
theorem four_alloc {W : World} {o : Obj} {B : Nat} {x0 x1 y0 y1 : Value} (h : W.cell? ⟨B, 0, none⟩ = some x0 ∧ W.cell? ⟨B, 1, none⟩ = some x1 ∧ W.cell? ⟨B + 1, 0, none⟩ = some y0 ∧ W.cell? ⟨B + 1, 1, none⟩ = some y1 ∧ B + 1 < W.heap.size) :
    (W.alloc o).cell? ⟨B, 0, none⟩ = some x0 ∧ (W.alloc o).cell? ⟨B, 1, none⟩ = some x1 ∧ (W.alloc o).cell? ⟨B + 1, 0, none⟩ = some y0 ∧ (W.alloc o).cell? ⟨B + 1, 1, none⟩ = some y1 ∧ B + 1 < (W.alloc o).heap.size := by
  obtain ⟨h0, h1, h2, h3, h4⟩ := h
  refine ⟨?_, ?_, ?_, ?_, by simp; omega⟩
  · rw [World.cell?_alloc_lt W o _ (by show B < _; omega)]; exact h0
  · rw [World.cell?_alloc_lt W o _ (by show B < _; omega)]; exact h1
  · rw [World.cell?_alloc_lt W o _ (by show B + 1 < _; omega)]; exact h2
  · rw [World.cell?_alloc_lt W o _ (by show B + 1 < _; omega)]; exact h3
theorem four_allocD {W : World} {o : Obj} {B : Nat} {x0 x1 y0 y1 : Value} (h : W.cell? ⟨B, 0, none⟩ = some x0 ∧ W.cell? ⟨B, 1, none⟩ = some x1 ∧ W.cell? ⟨B + 1, 0, none⟩ = some y0 ∧ W.cell? ⟨B + 1, 1, none⟩ = some y1 ∧ B + 1 < W.heap.size) :
    (W.alloc o).drew.cell? ⟨B, 0, none⟩ = some x0 ∧ (W.alloc o).drew.cell? ⟨B, 1, none⟩ = some x1 ∧ (W.alloc o).drew.cell? ⟨B + 1, 0, none⟩ = some y0 ∧ (W.alloc o).drew.cell? ⟨B + 1, 1, none⟩ = some y1 ∧ B + 1 < (W.alloc o).drew.heap.size := four_alloc h
set_option maxHeartbeats 1000000 in
theorem order_any (a b : Wt) (w : World) : Calls Try.prog 26 #[.agg #[.int .i64 a.1, .int .i64 a.2], .agg #[.int .i64 b.1, .int .i64 b.2]] w fun e w' => IntBelow (ordW a b) w e w' := by
  obtain ⟨W, hW⟩ : ∃ W, W = (w.alloc (.cells #[.int .i64 a.1, .int .i64 a.2] 57)).alloc (.cells #[.int .i64 b.1, .int .i64 b.2] 57) := ⟨_, rfl⟩
  have hbW : Below w.heap.size w W := by rw [hW]; exact ((Below.refl _ _).alloc (Nat.le_refl _) _).alloc (by simp) _
  have ha := (Blk.new w 57 #[.int .i64 a.1, .int .i64 a.2]).alloc (.cells #[.int .i64 b.1, .int .i64 b.2] 57)
  have hb := Blk.new (w.alloc (.cells #[.int .i64 a.1, .int .i64 a.2] 57)) 57 #[.int .i64 b.1, .int .i64 b.2]
  rw [World.size_alloc] at hb
  rw [← hW] at ha hb
  have hs : W.drew.cell? ⟨w.heap.size, 0, none⟩ = some (.int .i64 a.1) ∧ W.drew.cell? ⟨w.heap.size, 1, none⟩ = some (.int .i64 a.2) ∧ W.drew.cell? ⟨w.heap.size + 1, 0, none⟩ = some (.int .i64 b.1) ∧ W.drew.cell? ⟨w.heap.size + 1, 1, none⟩ = some (.int .i64 b.2) ∧ w.heap.size + 1 < W.drew.heap.size :=
    ⟨ha.cell 0, ha.cell 1, hb.cell 0, hb.cell 1, hb.lt⟩
  have HS0 := Lib.hid (show W.cell? ⟨w.heap.size, 0, none⟩ = some (.int .i64 a.1) ∧ W.cell? ⟨w.heap.size, 1, none⟩ = some (.int .i64 a.2) ∧ W.cell? ⟨w.heap.size + 1, 0, none⟩ = some (.int .i64 b.1) ∧ W.cell? ⟨w.heap.size + 1, 1, none⟩ = some (.int .i64 b.2) ∧ w.heap.size + 1 < W.heap.size from hs)
  have HS := Lib.hid hs; have HB := Lib.hid hbW; have HW := Lib.hid hW
  have hzW := hbW.size
  clear hs hbW hW ha hb
  go_enter Try.func26, Try.ntmps26
  go_wp2_with fail
  rw [← HW.out]
  go_region_held3 (fun W => W.cell? ⟨w.heap.size, 0, none⟩ = some (.int .i64 a.1) ∧ W.cell? ⟨w.heap.size, 1, none⟩ = some (.int .i64 a.2) ∧ W.cell? ⟨w.heap.size + 1, 0, none⟩ = some (.int .i64 b.1) ∧ W.cell? ⟨w.heap.size + 1, 1, none⟩ = some (.int .i64 b.2) ∧ w.heap.size + 1 < W.heap.size)
    (first | with_reducible exact HS.out | with_reducible assumption | with_reducible exact four_allocD HS0.out | fail)
    (first
      | (go_at_call 34; refine (cmp_int _ _ _).mono ?_; rintro e w' ⟨rfl, rfl⟩)
      | (go_at_call 33; refine (or_any W.heap.size (sgnI a.2 b.2) (sgnI a.1 b.1) _ (by go_simp) (by go_simp)).mono ?_; rintro e w' ⟨rfl, rfl⟩))
  all_goals
    go_wp2
    go_ret
    exact ⟨ret_int (or_ord a b), (HB.out.alloc hzW _).drew⟩
end Go.Proofs.Ytbngcepekaicjaa
