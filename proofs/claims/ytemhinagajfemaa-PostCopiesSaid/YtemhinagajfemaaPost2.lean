/- A message is put into a box. -/
import Derived.Test.YtemhinagajfemaaPost1
namespace Go.Proofs.Ytemhinagajfemaa
set_option linter.unusedVariables false
open Go.RowKit

theorem Val.In.drew {w : World} {v : Val} (h : v.In w) : v.In w.drew := Val.in_carry (w := w) (w' := w.drew) (fun _ _ _ => rfl) (Nat.le_refl _) _ v (Nat.le_refl _) h

/-- Cells are stored one by one into a list. -/
def setFrom (l : List Value) (o : Nat) : List Value → List Value
  | [] => l
  | u :: us => setFrom (l.set o u) (o + 1) us
theorem setFrom_get : ∀ (us l : List Value) (o t : Nat), o + us.length ≤ l.length → (setFrom l o us)[t]? = if o ≤ t ∧ t < o + us.length then us[t - o]? else l[t]?
  | [], l, o, t, _ => by simp only [setFrom, List.length_nil, Nat.add_zero]; rw [if_neg (by omega)]
  | u :: us, l, o, t, h => by
    simp only [setFrom]
    simp only [List.length_cons] at h ⊢
    rw [setFrom_get us (l.set o u) (o + 1) t (by simp; omega)]
    by_cases h1 : o + 1 ≤ t ∧ t < o + 1 + us.length
    · rw [if_pos h1, if_pos (by omega), show t - o = (t - (o + 1)) + 1 from by omega]
      simp
    · rw [if_neg h1, List.getElem?_set]
      by_cases h2 : o = t
      · subst h2
        rw [if_pos rfl, if_pos (by omega), if_pos (by omega)]
        simp
      · rw [if_neg h2, if_neg (by omega)]
theorem setFrom_length : ∀ (us l : List Value) (o : Nat), (setFrom l o us).length = l.length
  | [], l, o => rfl
  | u :: us, l, o => by simp only [setFrom]; rw [setFrom_length]; simp

theorem flatM_snoc (ms : List (Val × Val)) (a b : Val) : flatM (ms ++ [(a, b)]) = flatM ms ++ [a, b] := by simp [flatM]
theorem box_put (ms : List (Val × Val)) (a b : Val) (h : ms.length < 6) : (setFrom (boxCells ms) (ms.length * 12) (a.cells ++ b.cells)).set 72 (.int .i64 ((ms.length : Int) + 1)) = boxCells (ms ++ [(a, b)]) := by
  have hl := boxCells_length (ms := ms) (by omega)
  have hl2 := boxCells_length (ms := ms ++ [(a, b)]) (by simp; omega)
  have hc : (a.cells ++ b.cells).length = 12 := rfl
  apply List.ext_getElem?
  intro t
  rw [List.getElem?_set, setFrom_get _ _ _ _ (by rw [hc, hl]; omega), hc]
  have e0 : (rowCells (flatM ms)).length = ms.length * 12 := by rw [rowCells_length, flatM_length]; omega
  have eB : boxCells (ms ++ [(a, b)]) = rowCells (flatM ms) ++ ((a.cells ++ b.cells) ++ (rowCells (List.replicate (10 - 2 * ms.length) Val.zero) ++ [.int .i64 ((ms.length : Int) + 1)])) := by
    unfold boxCells
    rw [flatM_snoc]
    have : 12 - 2 * (ms ++ [(a, b)]).length = 10 - 2 * ms.length := by simp; omega
    rw [this]
    simp [rowCells]
  have eA : boxCells ms = rowCells (flatM ms) ++ ((Val.zero.cells ++ Val.zero.cells) ++ (rowCells (List.replicate (10 - 2 * ms.length) Val.zero) ++ [.int .i64 (ms.length : Int)])) := by
    unfold boxCells
    rw [show 12 - 2 * ms.length = (10 - 2 * ms.length) + 1 + 1 from by omega, List.replicate_succ, List.replicate_succ]
    simp [rowCells]
  have er : (rowCells (List.replicate (10 - 2 * ms.length) Val.zero)).length = 60 - 12 * ms.length := by rw [rowCells_length, List.length_replicate]; omega
  have hz : (Val.zero.cells ++ Val.zero.cells).length = 12 := rfl
  generalize a.cells ++ b.cells = C at hc eB ⊢
  generalize Val.zero.cells ++ Val.zero.cells = Z at hz eA
  rw [setFrom_length, hl]
  by_cases h72 : 72 = t
  · subst h72
    rw [if_pos rfl, if_pos (by omega), eB, List.getElem?_append_right (by omega), List.getElem?_append_right (by omega), List.getElem?_append_right (by omega), e0, hc, er,
      show 72 - ms.length * 12 - 12 - (60 - 12 * ms.length) = 0 from by omega]
    rfl
  · rw [if_neg h72]
    by_cases h1 : ms.length * 12 ≤ t ∧ t < ms.length * 12 + 12
    · rw [if_pos h1, eB, List.getElem?_append_right (by omega), List.getElem?_append_left (by omega), e0]
    · rw [if_neg h1, eA, eB]
      by_cases h2 : t < ms.length * 12
      · rw [List.getElem?_append_left (by omega), List.getElem?_append_left (by omega)]
      · have skip : ∀ (D R : List Value), D.length = 12 → (rowCells (flatM ms) ++ (D ++ R))[t]? = R[t - ms.length * 12 - 12]? := fun D R hD => by
          rw [List.getElem?_append_right (by omega), List.getElem?_append_right (by omega), e0, hD]
        rw [skip Z _ hz, skip C _ hc]
        by_cases h3 : t < 72
        · rw [List.getElem?_append_left (by omega), List.getElem?_append_left (by omega)]
        · rw [List.getElem?_eq_none (by simp [er]; omega), List.getElem?_eq_none (by simp [er]; omega)]
end Go.Proofs.Ytemhinagajfemaa
