/- The order of adding changes nothing (plain). -/
import Derived.Test.YtbngcepekaicjaaTmMap
namespace Go.Proofs.Ytbngcepekaicjaa
set_option linter.unusedVariables false

def goodW (x : Wt) : Bool := !badW x.1 x.2
theorem foldA_perm (O : List Wt) (hn : (O.map (·.1)).Nodup) (hl : O.length ≤ 200) : ∀ k, k ≤ O.length → (foldA (O.take k)).Perm ((O.take k).filter goodW)
  | 0, _ => by simp [foldA]
  | k + 1, h => by
    have ih := foldA_perm O hn hl k (by omega)
    rw [take_next h, foldA_snoc, List.filter_append]
    have hlen := foldA_len O k (by omega)
    have hno : hasW (foldA (O.take k)) (gW O k).1 = false := by
      rw [Bool.eq_false_iff]
      intro hh
      obtain ⟨y, hy, e⟩ := List.any_eq_true.1 hh
      have hy' := (List.mem_filter.1 (ih.mem_iff.1 hy)).1
      have e : y.1 = (gW O k).1 := by simpa using e
      have hs : (O.take (k + 1)).map (·.1) = (O.take k).map (·.1) ++ [(gW O k).1] := by rw [take_next h, List.map_append]; rfl
      have hnd : ((O.take (k + 1)).map (·.1)).Nodup := hn.sublist ((List.take_sublist _ _).map _)
      rw [hs, List.nodup_append] at hnd
      exact hnd.2.2 _ (List.mem_map_of_mem hy') _ (List.mem_singleton.2 rfl) e
    unfold addL
    by_cases hb : badW (gW O k).1 (gW O k).2 = true
    · have : addE (foldA (O.take k)) (gW O k).1 (gW O k).2 ≠ 0 := by unfold addE; rw [if_pos hb]; decide
      rw [if_neg this]
      simpa [List.filter_cons, goodW, hb] using ih
    · have : addE (foldA (O.take k)) (gW O k).1 (gW O k).2 = 0 := by
        unfold addE
        rw [if_neg hb, hno, if_neg (by simp), if_neg (by omega)]
      rw [if_pos this]
      have hb' : badW (gW O k).1 (gW O k).2 = false := by simpa using hb
      have h1 := insW_perm (foldA (O.take k)) ((gW O k).1, (gW O k).2)
      have h2 : ([gW O k] : List Wt).filter goodW = [gW O k] := by simp [List.filter_cons, goodW, hb']
      rw [h2]
      exact h1.trans (((List.perm_cons _).2 ih).trans (List.perm_append_singleton _ _).symm)
theorem foldA_same {O O' : List Wt} (hn : (O.map (·.1)).Nodup) (hl : O.length ≤ 200) (hp : O'.Perm O) (hbd : ∀ x, x ∈ O → x.1 ≤ 9223372036854775807) : foldA O' = foldA O := by
  have hn' : (O'.map (·.1)).Nodup := (hp.map _).nodup_iff.2 hn
  have hl' : O'.length ≤ 200 := by rw [hp.length_eq]; exact hl
  have h1 := foldA_perm O hn hl O.length (Nat.le_refl _)
  have h2 := foldA_perm O' hn' hl' O'.length (Nat.le_refl _)
  have o1 := foldA_ok O hbd O.length (Nat.le_refl _)
  have o2 := foldA_ok O' (fun x hx => hbd x (hp.mem_iff.1 hx)) O'.length (Nat.le_refl _)
  rw [List.take_length] at h1 h2 o1 o2
  exact perm_sorted_eq (h2.trans ((hp.filter _).trans h1.symm)) o2.sorted o1.sorted
/-- Each id's first pair. -/
def dedF (L : List Wt) : List Wt := L.foldl (fun O x => if hasW O x.1 = true then O else O ++ [x]) []
theorem dedF_has (id : Int) : ∀ (L : List Wt) (O : List Wt), hasW (L.foldl (fun O x => if hasW O x.1 = true then O else O ++ [x]) O) id = (hasW O id || hasW L id)
  | [], O => by simp [hasW]
  | x :: L, O => by
    rw [List.foldl_cons, dedF_has id L]
    by_cases h : hasW O x.1 = true
    · rw [if_pos h]
      by_cases e : x.1 = id
      · subst e; simp [h]
      · have : (x.1 == id) = false := by simpa using e
        simp [hasW, this]
    · rw [if_neg h]
      simp [hasW, Bool.or_assoc]
theorem hasW_ded (L : List Wt) (id : Int) : hasW (dedF L) id = hasW L id := by
  unfold dedF
  rw [dedF_has]
  simp [hasW]
theorem dedF_snoc (L : List Wt) (x : Wt) : dedF (L ++ [x]) = if hasW L x.1 = true then dedF L else dedF L ++ [x] := by
  rw [← hasW_ded L x.1]
  unfold dedF
  rw [List.foldl_append]
  rfl
theorem dedF_all (L : List Wt) : ∀ k, k ≤ L.length → ((dedF (L.take k)).map (·.1)).Nodup ∧ (dedF (L.take k)).length ≤ k ∧ (∀ x, x ∈ dedF (L.take k) → x ∈ L) ∧ (0 < k → 0 < (dedF (L.take k)).length)
  | 0, _ => by simp [dedF]
  | k + 1, h => by
    obtain ⟨i1, i2, i3, i4⟩ := dedF_all L k (by omega)
    rw [take_next h, dedF_snoc]
    by_cases hh : hasW (L.take k) (gW L k).1 = true
    · rw [if_pos hh]
      refine ⟨i1, by omega, i3, fun _ => i4 ?_⟩
      rcases k with _ | k
      · simp [hasW] at hh
      · omega
    · rw [if_neg hh]
      have hf : hasW (dedF (L.take k)) (gW L k).1 = false := by rw [hasW_ded]; simpa using hh
      refine ⟨?_, by simp; omega, fun x hx => ?_, fun _ => by simp⟩
      · rw [List.map_append, List.nodup_append]
        refine ⟨i1, by simp, fun a ha b hb => ?_⟩
        obtain ⟨y, hy, rfl⟩ := List.mem_map.1 ha
        have e : b = (gW L k).1 := by simpa using hb
        rw [e]
        exact hasW_false hf y hy
      · rcases List.mem_append.1 hx with hx | hx
        · exact i3 x hx
        · rw [List.mem_singleton.1 hx]; exact gW_mem h
/-- The list turned by k: its first i. -/
def rotT (O : List Wt) (k i : Nat) : List Wt := (List.range i).map fun j => gW O ((j + k) % O.length)
theorem rotT_next (O : List Wt) (k i : Nat) : rotT O k (i + 1) = rotT O k i ++ [gW O ((i + k) % O.length)] := by simp [rotT, List.range_succ]
theorem rotT_perm (O : List Wt) (k : Nat) (hk : k < O.length) : (rotT O k O.length).Perm O := by
  have e : rotT O k O.length = O.drop k ++ O.take k := by
    apply List.ext_getElem
    · simp [rotT]; omega
    · intro i h1 h2
      have hi : i < O.length := by simpa [rotT] using h1
      simp only [rotT, List.getElem_map, List.getElem_range]
      by_cases hd : i < O.length - k
      · rw [List.getElem_append_left (by simp; omega), List.getElem_drop, Nat.mod_eq_of_lt (by omega), gW_eq (by omega)]
        congr 1
        omega
      · rw [List.getElem_append_right (by simp; omega), List.getElem_take]
        have : (i + k) % O.length = i + k - O.length := by rw [Nat.mod_eq_sub_mod (by omega), Nat.mod_eq_of_lt (by omega)]
        rw [gW_eq (by rw [this]; omega)]
        congr 1
        rw [this]
        simp
        omega
  rw [e]
  have := List.perm_append_comm (l₁ := O.drop k) (l₂ := O.take k)
  rwa [List.take_append_drop] at this
/-- How often each id came. -/
def seenF (L : List Wt) (id : Int) : Option Int := if hasW L id = true then some ((L.filter (fun x => x.1 == id)).length : Int) else none
theorem seen_0 (L : List Wt) (id : Int) : (seenF L id).getD 0 = ((L.filter (fun x => x.1 == id)).length : Int) := by
  unfold seenF
  by_cases h : hasW L id = true
  · rw [if_pos h]; rfl
  · rw [if_neg h]
    have : L.filter (fun x => x.1 == id) = [] := by
      rw [List.filter_eq_nil_iff]
      intro x hx e
      exact h (List.any_eq_true.2 ⟨x, hx, e⟩)
    rw [this]
    rfl
theorem seen_has (L : List Wt) (id : Int) : ((seenF L id).getD 0 = 0) ↔ hasW L id = false := by
  rw [seen_0]
  constructor
  · intro h
    rw [Bool.eq_false_iff]
    intro hh
    obtain ⟨x, hx, e⟩ := List.any_eq_true.1 hh
    have : x ∈ L.filter (fun x => x.1 == id) := List.mem_filter.2 ⟨hx, e⟩
    have hp := List.length_pos_of_mem this
    omega
  · intro h
    have : L.filter (fun x => x.1 == id) = [] := by
      rw [List.filter_eq_nil_iff]
      intro x hx e
      exact hasW_false h x hx (by simpa using e)
    rw [this]
    rfl
theorem seen_next (L : List Wt) (x : Wt) (j : Int) : putF (seenF L) x.1 ((seenF L x.1).getD 0 + 1) j = seenF (L ++ [x]) j := by
  unfold putF
  by_cases h : j = x.1
  · subst h
    rw [if_pos rfl, seen_0]
    unfold seenF
    rw [if_pos (by simp [hasW])]
    simp
  · rw [if_neg h]
    have hx : (x.1 == j) = false := by simpa using fun e => h e.symm
    unfold seenF
    rw [show hasW (L ++ [x]) j = hasW L j from by simp [hasW, hx], show (L ++ [x]).filter (fun y => y.1 == j) = L.filter (fun y => y.1 == j) from by simp [hx]]
theorem seen_le (L : List Wt) (id : Int) : (0 : Int) ≤ (seenF L id).getD 0 ∧ (seenF L id).getD 0 ≤ (L.length : Int) := by
  rw [seen_0]
  have := List.length_filter_le (fun x : Wt => x.1 == id) L
  omega
end Go.Proofs.Ytbngcepekaicjaa
