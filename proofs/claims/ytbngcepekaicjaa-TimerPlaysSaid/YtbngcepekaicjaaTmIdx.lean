/- Who waits: slices.IndexFunc, slices.ContainsFunc over those that wait. -/
import Derived.Test.YtbngcepekaicjaaTmTake
import Derived.Test.YtbngcepekaicjaaTmSpec
namespace Go.Proofs.Ytbngcepekaicjaa
set_option linter.unusedVariables false
open Go.RowKit

def BoolBelow (b : Bool) (w : World) (e : Ending) (w' : World) : Prop := e = .returned (.bool b) ∧ Below w.heap.size w w'
/-- Those that wait lie at A. -/
def RowW (w : World) (A : Option Addr) (l : List Wt) : Prop := ∀ i, i < l.length → ∃ b, A = some ⟨b, 0, none⟩ ∧ b < w.heap.size ∧ w.cell? ⟨b, i * 2, none⟩ = some (.int .i64 (gW l i).1) ∧ w.cell? ⟨b, i * 2 + 1, none⟩ = some (.int .i64 (gW l i).2)
theorem RowW.below {w w' : World} {A : Option Addr} {l : List Wt} (h : RowW w A l) (hb : Below w.heap.size w w') : RowW w' A l := fun i hi => by
  obtain ⟨b, e, hlt, h0, h1⟩ := h i hi
  exact ⟨b, e, Nat.lt_of_lt_of_le hlt hb.size, (hb.cell (p := ⟨b, i * 2, none⟩) hlt).trans h0, (hb.cell (p := ⟨b, i * 2 + 1, none⟩) hlt).trans h1⟩
theorem WhAt.lie {w : World} {g base : Nat} {v : Value} {l : List Wt} (h : WhAt w g base v l) : ∃ A cap, v = .slice A l.length cap ∧ RowW w A l ∧ l.length ≤ cap := by
  rcases Nat.eq_zero_or_pos l.length with h0 | h0
  · rcases h.2.2 with ⟨rfl, _⟩ | ⟨b, cap, cur, rfl, hb, hg, hn, hm, hs, ht⟩
    · exact ⟨none, 0, by rw [h0], fun i hi => absurd hi (by omega), by omega⟩
    · exact ⟨_, _, rfl, fun i hi => absurd hi (by omega), hn⟩
  · obtain ⟨b, cap, r, e, hb, hk, hc, _⟩ := h.row h0
    exact ⟨_, _, e, fun i hi => ⟨b, rfl, Blk.lt hk, hk.c0 hi, hk.c1 hi⟩, hc⟩

theorem addc (x : Wt) (c : Nat) (id : Int) (w : World) (hc : w.cell? ⟨c, 0, none⟩ = some (.int .i64 id)) (hlt : c < w.heap.size) :
    Calls Try.prog 22 #[.agg #[.int .i64 x.1, .int .i64 x.2], .pointer (some ⟨c, 0, none⟩)] w fun e w' => BoolBelow (x.1 == id) w e w' := by
  have hne : c ≠ w.heap.size := by omega
  go_enter Try.func22, Try.ntmps22
  go_wp2
  go_ret
  exact ⟨rfl, (Below.refl _ _).alloc (Nat.le_refl _) _⟩
set_option maxHeartbeats 1000000 in
set_option maxRecDepth 100000 in
theorem add_no (A : Option Addr) (cap : Nat) (l : List Wt) (c : Nat) (id : Int) (w : World) (h : RowW w A l) (hl : l.length ≤ 300) (hc : w.cell? ⟨c, 0, none⟩ = some (.int .i64 id)) (hlt : c < w.heap.size) (hno : hasW l id = false) :
    Calls Try.prog 27 #[.slice A l.length cap, .func (Fn.func 22) #[] #[.pointer (some ⟨c, 0, none⟩)]] w fun e w' => IntBelow (-1) w e w' := by
  obtain ⟨n, hn⟩ : ∃ n, n = l.length := ⟨_, rfl⟩
  rw [← hn] at hl ⊢
  have HN := Lib.hid hn; have HR := Lib.hid h; have HC := Lib.hid hc; have HNO := Lib.hid (hasW_false hno)
  clear hn h hc hno
  go_enter Try.func27, Try.ntmps27
  go_wp2
  go_loopw [8] (fun iv wr => ∃ k : Nat, k ≤ n ∧ iv = .int .i64 k ∧ Below w.heap.size w wr) (fun iv _ => n - (intOf iv).toNat)
  case atStart => exact ⟨0, by omega, rfl, Below.refl _ _⟩
  case round =>
    obtain ⟨k, hk, rfl, hb⟩ := hrel
    by_cases hlt2 : k < n
    · have hkl : k < l.length := by rw [← HN.out]; exact hlt2
      obtain ⟨b, rfl, hbl, c0, c1⟩ := (HR.out.below hb) k hkl
      have hcc := (hb.cell (p := ⟨c, 0, none⟩) hlt).trans HC.out
      have hk0 : (0 : Int) ≤ (k : Int) := by omega
      have hk1 : (k : Int) < (n : Int) := by omega
      have hp := addc (gW l k) c id wr hcc (Nat.lt_of_lt_of_le hlt hb.size)
      rw [show ((gW l k).1 == id) = false from by simpa using HNO.out _ (gW_mem hkl)] at hp
      have HP := Lib.hid hp; have HB := Lib.hid hb
      clear hp hb hcc
      go_wp2_with fail
      refine HP.out.mono ?_
      rintro e w1 ⟨rfl, hl1⟩
      have HB1 := Lib.hid (HB.out.trans (hl1.mono HB.out.size))
      clear hl1 c0 c1
      go_wp2
      go_roundw
      case rel => exact ⟨k + 1, by omega, by go_num, HB1.out⟩
      case measure => simp [intOf]; omega
    · go_wp2
      go_ret
      exact ⟨rfl, hb⟩
def addFound (l : List Wt) (id : Int) (w : World) (e : Ending) (w' : World) : Prop := ∃ k : Nat, k < l.length ∧ (gW l k).1 = id ∧ e = .returned (.int .i64 k) ∧ Below w.heap.size w w'
set_option maxHeartbeats 1000000 in
set_option maxRecDepth 100000 in
theorem add_yes (A : Option Addr) (cap : Nat) (l : List Wt) (c : Nat) (id : Int) (w : World) (h : RowW w A l) (hl : l.length ≤ 300) (hc : w.cell? ⟨c, 0, none⟩ = some (.int .i64 id)) (hlt : c < w.heap.size) (hyes : hasW l id = true) :
    Calls Try.prog 27 #[.slice A l.length cap, .func (Fn.func 22) #[] #[.pointer (some ⟨c, 0, none⟩)]] w fun e w' => addFound l id w e w' := by
  obtain ⟨t, htl, ht⟩ : ∃ t, t < l.length ∧ (gW l t).1 = id := by
    obtain ⟨x, hx, e⟩ := List.any_eq_true.1 hyes
    obtain ⟨t, htl, rfl⟩ := List.getElem_of_mem hx
    exact ⟨t, htl, by rw [gW_eq htl]; simpa using e⟩
  obtain ⟨n, hn⟩ : ∃ n, n = l.length := ⟨_, rfl⟩
  rw [← hn] at hl htl ⊢
  have HN := Lib.hid hn; have HR := Lib.hid h; have HC := Lib.hid hc; have HT := Lib.hid ht
  clear hn h hc hyes ht
  go_enter Try.func27, Try.ntmps27
  go_wp2
  go_loopw [8] (fun iv wr => ∃ k : Nat, k ≤ t ∧ iv = .int .i64 k ∧ Below w.heap.size w wr) (fun iv _ => n - (intOf iv).toNat)
  case atStart => exact ⟨0, by omega, rfl, Below.refl _ _⟩
  case round =>
    obtain ⟨k, hk, rfl, hb⟩ := hrel
    have hkl : k < l.length := by rw [← HN.out]; omega
    obtain ⟨b, rfl, hbl, c0, c1⟩ := (HR.out.below hb) k hkl
    have hcc := (hb.cell (p := ⟨c, 0, none⟩) hlt).trans HC.out
    have hk0 : (0 : Int) ≤ (k : Int) := by omega
    have hk1 : (k : Int) < (n : Int) := by omega
    have hp := addc (gW l k) c id wr hcc (Nat.lt_of_lt_of_le hlt hb.size)
    have HB := Lib.hid hb
    cases he : ((gW l k).1 == id)
    · rw [he] at hp
      have hkt : k < t := by
        rcases Nat.lt_or_ge k t with h' | h'
        · exact h'
        · obtain rfl : k = t := by omega
          rw [HT.out] at he; simp at he
      have HP := Lib.hid hp
      clear hp hb hcc he
      go_wp2_with fail
      refine HP.out.mono ?_
      rintro e w1 ⟨rfl, hl1⟩
      have HB1 := Lib.hid (HB.out.trans (hl1.mono HB.out.size))
      clear hl1 c0 c1
      go_wp2
      go_roundw
      case rel => exact ⟨k + 1, by omega, by go_num, HB1.out⟩
      case measure => simp [intOf]; omega
    · rw [he] at hp
      have HP := Lib.hid hp; have HE := Lib.hid he
      clear hp hb hcc he
      go_wp2_with fail
      refine HP.out.mono ?_
      rintro e w1 ⟨rfl, hl1⟩
      have HB1 := Lib.hid (HB.out.trans (hl1.mono HB.out.size))
      clear hl1 c0 c1
      go_wp2
      go_ret
      exact ⟨k, hkl, by simpa using HE.out, rfl, HB1.out⟩

theorem dropc (x : Wt) (c : Nat) (id : Int) (w : World) (hc : w.cell? ⟨c, 0, none⟩ = some (.int .i64 id)) (hlt : c < w.heap.size) :
    Calls Try.prog 28 #[.agg #[.int .i64 x.1, .int .i64 x.2], .pointer (some ⟨c, 0, none⟩)] w fun e w' => BoolBelow (x.1 == id) w e w' := by
  have hne : c ≠ w.heap.size := by omega
  go_enter Try.func28, Try.ntmps28
  go_wp2
  go_ret
  exact ⟨rfl, (Below.refl _ _).alloc (Nat.le_refl _) _⟩
set_option maxHeartbeats 1000000 in
set_option maxRecDepth 100000 in
theorem drop_no (A : Option Addr) (cap : Nat) (l : List Wt) (c : Nat) (id : Int) (w : World) (h : RowW w A l) (hl : l.length ≤ 300) (hc : w.cell? ⟨c, 0, none⟩ = some (.int .i64 id)) (hlt : c < w.heap.size) (hno : hasW l id = false) :
    Calls Try.prog 27 #[.slice A l.length cap, .func (Fn.func 28) #[] #[.pointer (some ⟨c, 0, none⟩)]] w fun e w' => IntBelow (-1) w e w' := by
  obtain ⟨n, hn⟩ : ∃ n, n = l.length := ⟨_, rfl⟩
  rw [← hn] at hl ⊢
  have HN := Lib.hid hn; have HR := Lib.hid h; have HC := Lib.hid hc; have HNO := Lib.hid (hasW_false hno)
  clear hn h hc hno
  go_enter Try.func27, Try.ntmps27
  go_wp2
  go_loopw [8] (fun iv wr => ∃ k : Nat, k ≤ n ∧ iv = .int .i64 k ∧ Below w.heap.size w wr) (fun iv _ => n - (intOf iv).toNat)
  case atStart => exact ⟨0, by omega, rfl, Below.refl _ _⟩
  case round =>
    obtain ⟨k, hk, rfl, hb⟩ := hrel
    by_cases hlt2 : k < n
    · have hkl : k < l.length := by rw [← HN.out]; exact hlt2
      obtain ⟨b, rfl, hbl, c0, c1⟩ := (HR.out.below hb) k hkl
      have hcc := (hb.cell (p := ⟨c, 0, none⟩) hlt).trans HC.out
      have hk0 : (0 : Int) ≤ (k : Int) := by omega
      have hk1 : (k : Int) < (n : Int) := by omega
      have hp := dropc (gW l k) c id wr hcc (Nat.lt_of_lt_of_le hlt hb.size)
      rw [show ((gW l k).1 == id) = false from by simpa using HNO.out _ (gW_mem hkl)] at hp
      have HP := Lib.hid hp; have HB := Lib.hid hb
      clear hp hb hcc
      go_wp2_with fail
      refine HP.out.mono ?_
      rintro e w1 ⟨rfl, hl1⟩
      have HB1 := Lib.hid (HB.out.trans (hl1.mono HB.out.size))
      clear hl1 c0 c1
      go_wp2
      go_roundw
      case rel => exact ⟨k + 1, by omega, by go_num, HB1.out⟩
      case measure => simp [intOf]; omega
    · go_wp2
      go_ret
      exact ⟨rfl, hb⟩
def dropFound (l : List Wt) (id : Int) (w : World) (e : Ending) (w' : World) : Prop := ∃ k : Nat, k < l.length ∧ (gW l k).1 = id ∧ e = .returned (.int .i64 k) ∧ Below w.heap.size w w'
set_option maxHeartbeats 1000000 in
set_option maxRecDepth 100000 in
theorem drop_yes (A : Option Addr) (cap : Nat) (l : List Wt) (c : Nat) (id : Int) (w : World) (h : RowW w A l) (hl : l.length ≤ 300) (hc : w.cell? ⟨c, 0, none⟩ = some (.int .i64 id)) (hlt : c < w.heap.size) (hyes : hasW l id = true) :
    Calls Try.prog 27 #[.slice A l.length cap, .func (Fn.func 28) #[] #[.pointer (some ⟨c, 0, none⟩)]] w fun e w' => dropFound l id w e w' := by
  obtain ⟨t, htl, ht⟩ : ∃ t, t < l.length ∧ (gW l t).1 = id := by
    obtain ⟨x, hx, e⟩ := List.any_eq_true.1 hyes
    obtain ⟨t, htl, rfl⟩ := List.getElem_of_mem hx
    exact ⟨t, htl, by rw [gW_eq htl]; simpa using e⟩
  obtain ⟨n, hn⟩ : ∃ n, n = l.length := ⟨_, rfl⟩
  rw [← hn] at hl htl ⊢
  have HN := Lib.hid hn; have HR := Lib.hid h; have HC := Lib.hid hc; have HT := Lib.hid ht
  clear hn h hc hyes ht
  go_enter Try.func27, Try.ntmps27
  go_wp2
  go_loopw [8] (fun iv wr => ∃ k : Nat, k ≤ t ∧ iv = .int .i64 k ∧ Below w.heap.size w wr) (fun iv _ => n - (intOf iv).toNat)
  case atStart => exact ⟨0, by omega, rfl, Below.refl _ _⟩
  case round =>
    obtain ⟨k, hk, rfl, hb⟩ := hrel
    have hkl : k < l.length := by rw [← HN.out]; omega
    obtain ⟨b, rfl, hbl, c0, c1⟩ := (HR.out.below hb) k hkl
    have hcc := (hb.cell (p := ⟨c, 0, none⟩) hlt).trans HC.out
    have hk0 : (0 : Int) ≤ (k : Int) := by omega
    have hk1 : (k : Int) < (n : Int) := by omega
    have hp := dropc (gW l k) c id wr hcc (Nat.lt_of_lt_of_le hlt hb.size)
    have HB := Lib.hid hb
    cases he : ((gW l k).1 == id)
    · rw [he] at hp
      have hkt : k < t := by
        rcases Nat.lt_or_ge k t with h' | h'
        · exact h'
        · obtain rfl : k = t := by omega
          rw [HT.out] at he; simp at he
      have HP := Lib.hid hp
      clear hp hb hcc he
      go_wp2_with fail
      refine HP.out.mono ?_
      rintro e w1 ⟨rfl, hl1⟩
      have HB1 := Lib.hid (HB.out.trans (hl1.mono HB.out.size))
      clear hl1 c0 c1
      go_wp2
      go_roundw
      case rel => exact ⟨k + 1, by omega, by go_num, HB1.out⟩
      case measure => simp [intOf]; omega
    · rw [he] at hp
      have HP := Lib.hid hp; have HE := Lib.hid he
      clear hp hb hcc he
      go_wp2_with fail
      refine HP.out.mono ?_
      rintro e w1 ⟨rfl, hl1⟩
      have HB1 := Lib.hid (HB.out.trans (hl1.mono HB.out.size))
      clear hl1 c0 c1
      go_wp2
      go_ret
      exact ⟨k, hkl, by simpa using HE.out, rfl, HB1.out⟩

theorem cont_any (A : Option Addr) (cap : Nat) (l : List Wt) (c : Nat) (id : Int) (w : World) (h : RowW w A l) (hl : l.length ≤ 300) (hc : w.cell? ⟨c, 0, none⟩ = some (.int .i64 id)) (hlt : c < w.heap.size) :
    Calls Try.prog 21 #[.slice A l.length cap, .func (Fn.func 22) #[] #[.pointer (some ⟨c, 0, none⟩)]] w fun e w' => BoolBelow (hasW l id) w e w' := by
  obtain ⟨n, hn⟩ : ∃ n, n = l.length := ⟨_, rfl⟩
  have HN := Lib.hid hn
  rw [← hn]
  cases hh : hasW l id
  · have hp := add_no A cap l c id w h hl hc hlt hh
    rw [← hn] at hp
    have HP := Lib.hid hp
    clear hp hh hn h hc
    go_enter Try.func21, Try.ntmps21
    go_wp2_with fail
    refine HP.out.mono ?_
    rintro e w1 ⟨rfl, hl1⟩
    go_wp2
    go_ret
    exact ⟨rfl, hl1⟩
  · have hp := add_yes A cap l c id w h hl hc hlt hh
    rw [← hn] at hp
    have HP := Lib.hid hp
    clear hp hh hn h hc
    go_enter Try.func21, Try.ntmps21
    go_wp2_with fail
    refine HP.out.mono ?_
    rintro e w1 ⟨k, hk, _, rfl, hl1⟩
    have hk0 : (0 : Int) ≤ (k : Int) := by omega
    go_wp2
    go_ret
    exact ⟨rfl, hl1⟩
end Go.Proofs.Ytbngcepekaicjaa
