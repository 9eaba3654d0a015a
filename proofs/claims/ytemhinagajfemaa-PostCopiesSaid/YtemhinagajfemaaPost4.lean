/- The cells of a box as those of six messages and a number (plain). -/
import Derived.Test.YtemhinagajfemaaPost3
namespace Go.Proofs.Ytemhinagajfemaa
set_option linter.unusedVariables false
open Go.RowKit

theorem flat_len {α : Type} (f : α → List Value) (c : Nat) (hc : ∀ x, (f x).length = c) : ∀ us : List α, (us.flatMap f).length = us.length * c
  | [] => by simp
  | u :: us => by rw [List.flatMap_cons, List.length_append, hc, flat_len f c hc us, List.length_cons, Nat.succ_mul]; omega
theorem flat_get {α : Type} (f : α → List Value) (c : Nat) (hc : ∀ x, (f x).length = c) : ∀ (us : List α) (i j : Nat) (hi : i < us.length), j < c → (us.flatMap f)[i * c + j]? = (f (us[i]'hi))[j]?
  | u :: us, 0, j, _, hj => by
    rw [List.flatMap_cons, Nat.zero_mul, Nat.zero_add, List.getElem?_append_left (by rw [hc]; exact hj)]
    rfl
  | u :: us, i + 1, j, hi, hj => by
    rw [List.flatMap_cons, List.getElem?_append_right (by rw [hc, Nat.succ_mul]; omega), hc, show (i + 1) * c + j - c = i * c + j from by rw [Nat.succ_mul]; omega]
    simpa using flat_get f c hc us i j (by simpa using hi) hj

/-- A message's cells; a box's, all six places. -/
def letC (m : Val × Val) : List Value := m.1.cells ++ m.2.cells
theorem letC_len (m : Val × Val) : (letC m).length = 12 := rfl
def boxC (arr : List (Val × Val)) (n : Int) : List Value := arr.flatMap letC ++ [.int .i64 n]
def zLet : Val × Val := (Val.zero, Val.zero)
def arrOf (ms : List (Val × Val)) : List (Val × Val) := ms ++ List.replicate (6 - ms.length) zLet
theorem arrOf_len {ms : List (Val × Val)} (h : ms.length ≤ 6) : (arrOf ms).length = 6 := by simp [arrOf]; omega
theorem rowCells_flat : ∀ ms : List (Val × Val), rowCells (flatM ms) = ms.flatMap letC
  | [] => rfl
  | m :: ms => by
    have := rowCells_flat ms
    simp only [rowCells, flatM, List.flatMap_cons, letC, List.flatMap_append] at this ⊢
    rw [this]
    simp
theorem zeros_flat : ∀ k : Nat, rowCells (List.replicate (2 * k) Val.zero) = (List.replicate k zLet).flatMap letC
  | 0 => rfl
  | k + 1 => by
    rw [show 2 * (k + 1) = 2 * k + 1 + 1 from by omega, List.replicate_succ, List.replicate_succ, List.replicate_succ]
    have := zeros_flat k
    simp only [rowCells, List.flatMap_cons] at this ⊢
    rw [this]
    simp [letC, zLet]
theorem boxCells_arr {ms : List (Val × Val)} (h : ms.length ≤ 6) : boxCells ms = boxC (arrOf ms) ms.length := by
  unfold boxCells boxC arrOf
  have e : rowCells (flatM ms ++ List.replicate (12 - 2 * ms.length) Val.zero) = rowCells (flatM ms) ++ rowCells (List.replicate (12 - 2 * ms.length) Val.zero) := by simp [rowCells]
  rw [e, rowCells_flat, show 12 - 2 * ms.length = 2 * (6 - ms.length) from by omega, zeros_flat, List.flatMap_append]
theorem boxC_len {arr : List (Val × Val)} {n : Int} (h : arr.length = 6) : (boxC arr n).length = 73 := by
  unfold boxC
  rw [List.length_append, flat_len letC 12 letC_len, h]
  rfl
theorem boxC_get {arr : List (Val × Val)} {n : Int} {k j : Nat} (hk : k < arr.length) (hj : j < 12) : (boxC arr n)[k * 12 + j]? = (letC arr[k])[j]? := by
  unfold boxC
  rw [List.getElem?_append_left (by rw [flat_len letC 12 letC_len]; omega), flat_get letC 12 letC_len arr k j hk hj]
theorem boxC_last {arr : List (Val × Val)} {n : Int} (h : arr.length = 6) : (boxC arr n)[72]? = some (.int .i64 n) := by
  unfold boxC
  rw [List.getElem?_append_right (by rw [flat_len letC 12 letC_len, h]; decide), flat_len letC 12 letC_len, h]
  rfl
theorem boxC_n {arr : List (Val × Val)} {n m : Int} (h : arr.length = 6) : (boxC arr n).set 72 (.int .i64 m) = boxC arr m := by
  unfold boxC
  rw [List.set_append_right _ _ (by rw [flat_len letC 12 letC_len, h]; decide), flat_len letC 12 letC_len, h]
  rfl
theorem boxC_set {arr : List (Val × Val)} {n : Int} {k : Nat} (h : arr.length = 6) (hk : k < 6) (m : Val × Val) : setFrom (boxC arr n) (k * 12) (letC m) = boxC (arr.set k m) n := by
  have hl := boxC_len (n := n) h
  have h' : (arr.set k m).length = 6 := by simpa using h
  have hl' := boxC_len (n := n) h'
  apply List.ext_getElem?
  intro t
  rw [setFrom_get _ _ _ _ (by rw [letC_len, hl]; omega), letC_len]
  rcases Nat.lt_or_ge t 72 with h72 | h72
  · have et : t = t / 12 * 12 + t % 12 := by omega
    have hk' : t / 12 < (arr.set k m).length := by omega
    have hkA : t / 12 < arr.length := by omega
    have g1 := boxC_get (arr := arr.set k m) (n := n) hk' (Nat.mod_lt t (by omega : 0 < 12))
    rw [← et] at g1
    have g2 := boxC_get (arr := arr) (n := n) hkA (Nat.mod_lt t (by omega : 0 < 12))
    rw [← et] at g2
    rw [g1]
    by_cases hin : k * 12 ≤ t ∧ t < k * 12 + 12
    · rw [if_pos hin]
      have e : t / 12 = k := by omega
      have e2 : t - k * 12 = t % 12 := by omega
      rw [e2]
      rw [List.getElem_set, if_pos e.symm]
    · rw [if_neg hin, g2, List.getElem_set, if_neg (by omega)]
  · rw [if_neg (by omega)]
    rcases Nat.lt_or_ge t 73 with h73 | h73
    · obtain rfl : t = 72 := by omega
      rw [boxC_last h, boxC_last h']
    · rw [List.getElem?_eq_none (by omega), List.getElem?_eq_none (by omega)]

/-- Behind i the places up to k have moved one ahead. -/
def shifted (arr : List (Val × Val)) (i k : Nat) : List (Val × Val) := (List.range 6).map fun t => if i ≤ t ∧ t < k then arr.getD (t + 1) zLet else arr.getD t zLet
theorem shifted_len (arr : List (Val × Val)) (i k : Nat) : (shifted arr i k).length = 6 := by simp [shifted]
theorem shifted_at (arr : List (Val × Val)) (i k t : Nat) (h : t < 6) : (shifted arr i k)[t]? = some (if i ≤ t ∧ t < k then arr.getD (t + 1) zLet else arr.getD t zLet) := by
  unfold shifted
  rw [List.getElem?_map, List.getElem?_range h]
  rfl
theorem shifted_no (arr : List (Val × Val)) (i k t : Nat) (h : 6 ≤ t) : (shifted arr i k)[t]? = none := List.getElem?_eq_none (by rw [shifted_len]; exact h)
theorem shifted_start {arr : List (Val × Val)} (h : arr.length = 6) (i : Nat) : shifted arr i i = arr := by
  apply List.ext_getElem?
  intro t
  rcases Nat.lt_or_ge t 6 with ht | ht
  · rw [shifted_at _ _ _ _ ht, if_neg (by omega)]
    simp [show t < arr.length by omega]
  · rw [shifted_no _ _ _ _ ht, List.getElem?_eq_none (by omega)]
theorem shifted_step {arr : List (Val × Val)} {m : Val × Val} {i k : Nat} (hi : i ≤ k) (hk : k + 1 < 6) (hm : (shifted arr i k)[k + 1]? = some m) : (shifted arr i k).set k m = shifted arr i (k + 1) := by
  rw [shifted_at _ _ _ _ hk, if_neg (by omega)] at hm
  injection hm with hm
  apply List.ext_getElem?
  intro t
  rw [List.getElem?_set]
  rcases Nat.lt_or_ge t 6 with ht | ht
  · rw [shifted_at _ _ _ _ ht, shifted_at _ _ _ _ ht]
    by_cases e : k = t
    · subst e
      rw [if_pos rfl, if_pos (by rw [shifted_len]; omega), if_pos (by omega), hm]
    · rw [if_neg e]
      by_cases e2 : i ≤ t ∧ t < k
      · rw [if_pos e2, if_pos (by omega)]
      · rw [if_neg e2, if_neg (by omega)]
  · rw [if_neg (by omega), shifted_no _ _ _ _ ht, shifted_no _ _ _ _ ht]
theorem arrOf_in {ms : List (Val × Val)} {t : Nat} (h : t < ms.length) : (arrOf ms)[t]? = ms[t]? := List.getElem?_append_left h
theorem arrOf_out {ms : List (Val × Val)} {t : Nat} (h : ms.length ≤ t) (h6 : t < 6) : (arrOf ms)[t]? = some zLet := by
  unfold arrOf
  rw [List.getElem?_append_right h, List.getElem?_replicate, if_pos (by omega)]
theorem shifted_end {ms : List (Val × Val)} (h : ms.length ≤ 6) {i n : Nat} (hi : i < ms.length) (hn : n + 1 = ms.length) : (shifted (arrOf ms) i n).set n zLet = arrOf (ms.eraseIdx i) := by
  have hl : (ms.eraseIdx i).length = n := by rw [List.length_eraseIdx, if_pos hi]; omega
  have hA := arrOf_len h
  apply List.ext_getElem?
  intro t
  rw [List.getElem?_set]
  rcases Nat.lt_or_ge t 6 with ht | ht
  · by_cases e : n = t
    · subst e
      rw [if_pos rfl, if_pos (by rw [shifted_len]; omega), arrOf_out (by omega) ht]
    · rw [if_neg e, shifted_at _ _ _ _ ht]
      by_cases e1 : t < n
      · rw [arrOf_in (by omega), List.getElem?_eraseIdx]
        by_cases e2 : t < i
        · rw [if_neg (by omega), if_pos e2, List.getD_eq_getElem?_getD, arrOf_in (by omega)]
          simp [show t < ms.length by omega]
        · rw [if_pos (by omega), if_neg e2, List.getD_eq_getElem?_getD, arrOf_in (by omega)]
          simp [show t + 1 < ms.length by omega]
      · rw [if_neg (by omega), arrOf_out (by omega) ht, List.getD_eq_getElem?_getD, arrOf_out (by omega) ht]
        rfl
  · rw [if_neg (by omega), shifted_no _ _ _ _ ht, List.getElem?_eq_none (by rw [arrOf_len (by omega)]; exact ht)]
end Go.Proofs.Ytemhinagajfemaa
