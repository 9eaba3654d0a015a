/- A heap of those that wait: what moving one towards the root, and away from it, does to a list (plain). -/
namespace Go.Proofs.Ytbngcepekaicjaa
set_option linter.unusedVariables false

/-- Somebody that waits: a number, a second. -/
abbrev Wt := Int × Int
def sgnI (a b : Int) : Int := if a < b then -1 else if b < a then 1 else 0
def ordW (a b : Wt) : Int := if sgnI a.2 b.2 ≠ 0 then sgnI a.2 b.2 else sgnI a.1 b.1
def ltW (a b : Wt) : Prop := a.2 < b.2 ∨ a.2 = b.2 ∧ a.1 < b.1
def leW (a b : Wt) : Prop := a.2 < b.2 ∨ a.2 = b.2 ∧ a.1 ≤ b.1
instance (a b : Wt) : Decidable (ltW a b) := by unfold ltW; infer_instance
theorem ordW_le (a b : Wt) : ordW a b ≤ 0 ↔ leW a b := by
  unfold ordW sgnI leW
  split <;> split <;> (try split) <;> omega
theorem ordW_lt (a b : Wt) : ordW a b < 0 ↔ ltW a b := by
  unfold ordW sgnI ltW
  split <;> split <;> (try split) <;> omega
theorem leW_of_not {a b : Wt} (h : ¬ leW a b) : ltW b a := by unfold leW at h; unfold ltW; omega
theorem leW_of_lt {a b : Wt} (h : ltW a b) : leW a b := by unfold ltW at h; unfold leW; omega
theorem leW_trans {a b c : Wt} (h : leW a b) (k : leW b c) : leW a c := by unfold leW at *; omega
theorem leW_refl (a : Wt) : leW a a := by unfold leW; omega
theorem leW_not_lt {a b : Wt} (h : leW a b) : ¬ ltW b a := by unfold leW at h; unfold ltW; omega
theorem ltW_trans {a b c : Wt} (h : ltW a b) (k : ltW b c) : ltW a c := by unfold ltW at *; omega
theorem ltW_irrefl (a : Wt) : ¬ ltW a a := by unfold ltW; omega
theorem leW_antisymm {a b : Wt} (h : leW a b) (k : leW b a) : a = b := by
  unfold leW at *
  exact Prod.ext (by omega) (by omega)
theorem ltW_or {a b : Wt} (h : leW a b) : ltW a b ∨ a = b := by
  rcases Decidable.em (ltW a b) with h' | h'
  · exact .inl h'
  · exact .inr (leW_antisymm h (by unfold ltW at h'; unfold leW at *; omega))

def gW (l : List Wt) (i : Nat) : Wt := l.getD i (0, 0)
theorem gW_eq {l : List Wt} {i : Nat} (h : i < l.length) : gW l i = l[i] := by simp [gW, h]
theorem gW_some {l : List Wt} {i : Nat} (h : i < l.length) : l[i]? = some (gW l i) := by rw [gW_eq h]; exact List.getElem?_eq_getElem h
theorem gW_mem {l : List Wt} {i : Nat} (h : i < l.length) : gW l i ∈ l := by rw [gW_eq h]; exact List.getElem_mem h
theorem gW_set {l : List Wt} {i j : Nat} {x : Wt} (h : j < l.length) : gW (l.set i x) j = if i = j then x else gW l j := by
  unfold gW
  rw [List.getD_eq_getElem?_getD, List.getD_eq_getElem?_getD, List.getElem?_set]
  by_cases e : i = j
  · subst e; simp [h]
  · simp [e]

/-- Two change places. -/
def swp (l : List Wt) (p i : Nat) : List Wt := (l.set p (gW l i)).set i (gW l p)
theorem swp_len (l : List Wt) (p i : Nat) : (swp l p i).length = l.length := by simp [swp]
theorem swp_get {l : List Wt} {p i j : Nat} (hj : j < l.length) : gW (swp l p i) j = if i = j then gW l p else if p = j then gW l i else gW l j := by
  unfold swp
  rw [gW_set (by simpa using hj), gW_set hj]
theorem swp_i {l : List Wt} {p i : Nat} (hi : i < l.length) : gW (swp l p i) i = gW l p := by rw [swp_get hi, if_pos rfl]
theorem swp_p {l : List Wt} {p i : Nat} (hp : p < l.length) (h : p ≠ i) : gW (swp l p i) p = gW l i := by rw [swp_get hp, if_neg (fun e => h e.symm), if_pos rfl]
theorem swp_o {l : List Wt} {p i j : Nat} (hj : j < l.length) (h1 : j ≠ i) (h2 : j ≠ p) : gW (swp l p i) j = gW l j := by rw [swp_get hj, if_neg (fun e => h1 e.symm), if_neg (fun e => h2 e.symm)]
theorem swp_perm {l : List Wt} {p i : Nat} (hp : p < l.length) (hi : i < l.length) : (swp l p i).Perm l := by
  unfold swp
  rw [gW_eq hi, gW_eq hp]
  exact List.set_set_perm hp hi

/-- One moves towards the root. -/
def upF (l : List Wt) (i : Nat) : List Wt :=
  if h : 0 < i then if ordW (gW l ((i - 1) / 2)) (gW l i) ≤ 0 then l else upF (swp l ((i - 1) / 2) i) ((i - 1) / 2) else l
termination_by i
decreasing_by omega
theorem upF_zero (l : List Wt) : upF l 0 = l := by rw [upF]; simp
theorem upF_stop {l : List Wt} {i : Nat} (h : ordW (gW l ((i - 1) / 2)) (gW l i) ≤ 0) : upF l i = l := by
  rw [upF]; simp [h]
theorem upF_go {l : List Wt} {i : Nat} (h0 : 0 < i) (h : ¬ ordW (gW l ((i - 1) / 2)) (gW l i) ≤ 0) : upF l i = upF (swp l ((i - 1) / 2) i) ((i - 1) / 2) := by
  rw [upF, dif_pos h0, if_neg h]
/-- Which child goes up. -/
def kidF (l : List Wt) (i : Nat) : Nat := if 2 * i + 2 < l.length ∧ ordW (gW l (2 * i + 2)) (gW l (2 * i + 1)) < 0 then 2 * i + 2 else 2 * i + 1
theorem kidF_gt (l : List Wt) (i : Nat) : i < kidF l i := by unfold kidF; split <;> omega
theorem kidF_lt {l : List Wt} {i : Nat} (h : 2 * i + 1 < l.length) : kidF l i < l.length := by unfold kidF; split <;> omega
/-- One moves away from the root. -/
def downF (l : List Wt) (i : Nat) : List Wt :=
  if h : 2 * i + 1 < l.length then if ordW (gW l i) (gW l (kidF l i)) ≤ 0 then l else downF (swp l i (kidF l i)) (kidF l i) else l
termination_by l.length - i
decreasing_by rw [swp_len]; have := kidF_gt l i; omega
theorem downF_end {l : List Wt} {i : Nat} (h : ¬ 2 * i + 1 < l.length) : downF l i = l := by rw [downF, dif_neg h]
theorem downF_stop {l : List Wt} {i : Nat} (h : ordW (gW l i) (gW l (kidF l i)) ≤ 0) : downF l i = l := by
  rw [downF]; simp [h]
theorem downF_go {l : List Wt} {i : Nat} (h0 : 2 * i + 1 < l.length) (h : ¬ ordW (gW l i) (gW l (kidF l i)) ≤ 0) : downF l i = downF (swp l i (kidF l i)) (kidF l i) := by
  rw [downF, dif_pos h0, if_neg h]

theorem upF_len : ∀ (i : Nat) (l : List Wt), (upF l i).length = l.length := by
  intro i
  induction i using Nat.strongRecOn with
  | _ i ih =>
    intro l
    rw [upF]
    split
    · split
      · rfl
      · rw [ih _ (by omega), swp_len]
    · rfl
theorem upF_perm : ∀ (i : Nat) (l : List Wt), i < l.length → (upF l i).Perm l := by
  intro i
  induction i using Nat.strongRecOn with
  | _ i ih =>
    intro l hl
    rw [upF]
    split
    · split
      · exact List.Perm.refl _
      · exact (ih _ (by omega) _ (by rw [swp_len]; omega)).trans (swp_perm (by omega) hl)
    · exact List.Perm.refl _
theorem downF_perm : ∀ (n i : Nat) (l : List Wt), l.length - i ≤ n → (downF l i).Perm l := by
  intro n
  induction n with
  | zero => intro i l h; rw [downF_end (by omega)]
  | succ n ih =>
    intro i l h
    rw [downF]
    split
    · split
      · exact List.Perm.refl _
      · have h1 := kidF_gt l i
        rename_i h0 _
        have h2 := kidF_lt h0
        exact (ih _ _ (by rw [swp_len]; omega)).trans (swp_perm (by omega) h2)
    · exact List.Perm.refl _

/-- Each one's parent stands ahead of it. -/
def Hp (l : List Wt) : Prop := ∀ j, 0 < j → j < l.length → leW (gW l ((j - 1) / 2)) (gW l j)
def UpInv (l : List Wt) (i : Nat) : Prop :=
  (∀ j, 0 < j → j < l.length → j ≠ i → leW (gW l ((j - 1) / 2)) (gW l j)) ∧ (0 < i → ∀ j, 0 < j → j < l.length → (j - 1) / 2 = i → leW (gW l ((i - 1) / 2)) (gW l j))
theorem up_heap : ∀ (i : Nat) (l : List Wt), i < l.length → UpInv l i → Hp (upF l i) := by
  intro i
  induction i using Nat.strongRecOn with
  | _ i ih =>
    intro l hl ⟨h1, h2⟩
    rcases Nat.eq_zero_or_pos i with rfl | h0
    · rw [upF_zero]; exact fun j hj hjl => h1 j hj hjl (by omega)
    · by_cases hs : ordW (gW l ((i - 1) / 2)) (gW l i) ≤ 0
      · rw [upF_stop hs]
        intro j hj hjl
        by_cases e : j = i
        · subst e; exact (ordW_le _ _).1 hs
        · exact h1 j hj hjl e
      · rw [upF_go h0 hs]
        have hlt := leW_of_not (fun h => hs ((ordW_le _ _).2 h))
        have hle := leW_of_lt hlt
        refine ih _ (by omega) _ (by rw [swp_len]; omega) ⟨fun j hj hjl hne => ?_, fun hp j hj hjl hpar => ?_⟩
        · rw [swp_len] at hjl
          by_cases e : j = i
          · subst e
            rw [swp_i hl, swp_p (by omega) (by omega)]; exact hle
          · rw [swp_o hjl e hne]
            by_cases e1 : (j - 1) / 2 = i
            · rw [e1, swp_i hl]; exact h2 h0 j hj hjl e1
            · by_cases e2 : (j - 1) / 2 = (i - 1) / 2
              · rw [e2, swp_p (by omega) (by omega)]
                have := h1 j hj hjl e
                rw [e2] at this
                exact leW_trans hle this
              · rw [swp_o (by omega) e1 e2]; exact h1 j hj hjl e
        · rw [swp_len] at hjl
          have hpp := h1 ((i - 1) / 2) hp (by omega) (by omega)
          rw [swp_o (j := ((i - 1) / 2 - 1) / 2) (by omega) (by omega) (by omega)]
          by_cases e : j = i
          · subst e; rw [swp_i hl]; exact hpp
          · rw [swp_o hjl e (by omega)]
            have := h1 j hj hjl e
            rw [hpar] at this
            exact leW_trans hpp this
def DownInv (l : List Wt) (i : Nat) : Prop :=
  (∀ j, 0 < j → j < l.length → (j - 1) / 2 ≠ i → leW (gW l ((j - 1) / 2)) (gW l j)) ∧ (0 < i → ∀ j, 0 < j → j < l.length → (j - 1) / 2 = i → leW (gW l ((i - 1) / 2)) (gW l j))
theorem kid_least {l : List Wt} {i j : Nat} (hj : 0 < j) (hjl : j < l.length) (hp : (j - 1) / 2 = i) : leW (gW l (kidF l i)) (gW l j) := by
  unfold kidF
  by_cases h : 2 * i + 2 < l.length ∧ ordW (gW l (2 * i + 2)) (gW l (2 * i + 1)) < 0
  · rw [if_pos h]
    have hlt := leW_of_lt ((ordW_lt _ _).1 h.2)
    rcases (by omega : j = 2 * i + 1 ∨ j = 2 * i + 2) with rfl | rfl
    · exact hlt
    · exact leW_refl _
  · rw [if_neg h]
    rcases (by omega : j = 2 * i + 1 ∨ j = 2 * i + 2) with rfl | rfl
    · exact leW_refl _
    · have hn : ¬ ordW (gW l (2 * i + 2)) (gW l (2 * i + 1)) < 0 := fun h' => h ⟨hjl, h'⟩
      rw [ordW_lt] at hn
      unfold ltW at hn; unfold leW; omega
theorem down_heap : ∀ (n i : Nat) (l : List Wt), l.length - i ≤ n → DownInv l i → Hp (downF l i) := by
  intro n
  induction n with
  | zero =>
    intro i l h ⟨h1, h2⟩
    rw [downF_end (by omega)]
    exact fun j hj hjl => h1 j hj hjl (by omega)
  | succ n ih =>
    intro i l h ⟨h1, h2⟩
    by_cases h0 : 2 * i + 1 < l.length
    · have hk1 := kidF_gt l i
      have hk2 := kidF_lt h0
      by_cases hs : ordW (gW l i) (gW l (kidF l i)) ≤ 0
      · rw [downF_stop hs]
        intro j hj hjl
        by_cases e : (j - 1) / 2 = i
        · rw [e]; exact leW_trans ((ordW_le _ _).1 hs) (kid_least hj hjl e)
        · exact h1 j hj hjl e
      · rw [downF_go h0 hs]
        have hlt := leW_of_not (fun h => hs ((ordW_le _ _).2 h))
        have hle := leW_of_lt hlt
        have hkp : (kidF l i - 1) / 2 = i := by unfold kidF; split <;> omega
        refine ih _ _ (by rw [swp_len]; omega) ⟨fun j hj hjl hne => ?_, fun hp j hj hjl hpar => ?_⟩
        · rw [swp_len] at hjl
          by_cases e : j = kidF l i
          · subst e
            rw [hkp, swp_i hk2, swp_p (by omega) (by omega)]; exact hle
          · by_cases e1 : (j - 1) / 2 = i
            · rw [e1, swp_p (by omega) (by omega), swp_o hjl e (by omega)]
              exact kid_least hj hjl e1
            · rw [swp_o (j := (j - 1) / 2) (by omega) hne e1]
              by_cases e2 : j = i
              · subst e2
                rw [swp_p (by omega) (by omega)]
                exact h2 (by omega) _ (by omega) hk2 hkp
              · rw [swp_o hjl e e2]; exact h1 j hj hjl e1
        · rw [swp_len] at hjl
          rw [hkp, swp_p (by omega) (by omega), swp_o hjl (by omega) (by omega)]
          have := h1 j hj hjl (by omega)
          rwa [hpar] at this
    · rw [downF_end h0]
      exact fun j hj hjl => h1 j hj hjl (by omega)
theorem down_same {l : List Wt} (h : Hp l) (i : Nat) : downF l i = l := by
  by_cases h0 : 2 * i + 1 < l.length
  · have hk1 := kidF_gt l i
    have hk2 := kidF_lt h0
    have hkp : (kidF l i - 1) / 2 = i := by unfold kidF; split <;> omega
    have := h (kidF l i) (by omega) hk2
    rw [hkp] at this
    exact downF_stop ((ordW_le _ _).2 this)
  · exact downF_end h0

theorem heap_root {l : List Wt} (h : Hp l) : ∀ j, j < l.length → leW (gW l 0) (gW l j) := by
  intro j
  induction j using Nat.strongRecOn with
  | _ j ih =>
    intro hj
    rcases Nat.eq_zero_or_pos j with rfl | h0
    · exact leW_refl _
    · exact leW_trans (ih _ (by omega) (by omega)) (h j h0 hj)

/-- One joins at the end. -/
theorem add_heap {l : List Wt} (h : Hp l) (x : Wt) : Hp (upF (l ++ [x]) l.length) := by
  have ge : ∀ j, j < l.length → gW (l ++ [x]) j = gW l j := fun j hj => by
    unfold gW
    rw [List.getD_eq_getElem?_getD, List.getD_eq_getElem?_getD, List.getElem?_append_left hj]
  refine up_heap _ _ (by simp) ⟨fun j hj hjl hne => ?_, fun h0 j hj hjl hp => ?_⟩
  · simp at hjl
    rw [ge _ (by omega), ge _ (by omega)]
    exact h j hj (by omega)
  · simp at hjl
    try omega
theorem add_perm (l : List Wt) (x : Wt) : (upF (l ++ [x]) l.length).Perm (x :: l) :=
  (upF_perm _ _ (by simp)).trans (List.perm_append_singleton x l)

/-- One is taken out. -/
def cutF (l : List Wt) (i : Nat) : List Wt := (l.set i (gW l (l.length - 1))).take (l.length - 1)
def takeF (l : List Wt) (i : Nat) : List Wt := if i < l.length - 1 then downF (upF (cutF l i) i) i else cutF l i
theorem cutF_len (l : List Wt) (i : Nat) : (cutF l i).length = l.length - 1 := by simp [cutF]
theorem cutF_get {l : List Wt} {i j : Nat} (hj : j < l.length - 1) : gW (cutF l i) j = if i = j then gW l (l.length - 1) else gW l j := by
  have : gW (cutF l i) j = gW (l.set i (gW l (l.length - 1))) j := by
    unfold cutF
    unfold gW
    rw [List.getD_eq_getElem?_getD, List.getElem?_take, if_pos hj, ← List.getD_eq_getElem?_getD]
  rw [this, gW_set (by omega)]
theorem erase_perm : ∀ (l : List Wt) (i : Nat) (hi : i < l.length), (l[i] :: l.eraseIdx i).Perm l
  | a :: l, 0, _ => by simp
  | a :: l, i + 1, hi => by
    have := erase_perm l i (by simpa using hi)
    simp only [List.getElem_cons_succ, List.eraseIdx_cons_succ]
    exact (List.Perm.swap _ _ _).trans (this.cons a)
theorem cutF_perm {l : List Wt} {i : Nat} (hi : i < l.length) : (cutF l i).Perm (l.eraseIdx i) := by
  have h1 : (cutF l i ++ [l[i]]).Perm l := by
    have e : cutF l i ++ [l[i]] = swp l i (l.length - 1) := by
      unfold cutF swp
      rw [gW_eq hi]
      apply List.ext_getElem?
      intro t
      rw [List.getElem?_set, List.getElem?_append, List.length_take, List.length_set, List.getElem?_take]
      by_cases h : t < l.length - 1
      · rw [if_pos (by omega), if_pos h, if_neg (by omega)]
      · rw [if_neg (by omega)]
        by_cases h' : l.length - 1 = t
        · rw [if_pos h', if_pos (by omega), show t - min (l.length - 1) l.length = 0 from by omega]
          rfl
        · rw [if_neg h', List.getElem?_eq_none (by simp; omega), List.getElem?_eq_none (by simp; omega)]
    rw [e]
    exact swp_perm hi (by omega)
  have h2 : (l.eraseIdx i ++ [l[i]]).Perm l := by
    exact (List.perm_append_singleton _ _).trans (erase_perm l i hi)
  exact (List.perm_append_right_iff [l[i]]).1 (h1.trans h2.symm)
theorem cut_i {l : List Wt} {i : Nat} (hi : i < l.length - 1) : gW (cutF l i) i = gW l (l.length - 1) := by rw [cutF_get hi, if_pos rfl]
theorem cut_o {l : List Wt} {i j : Nat} (hj : j < l.length - 1) (h : j ≠ i) : gW (cutF l i) j = gW l j := by rw [cutF_get hj, if_neg (fun e => h e.symm)]
theorem take_heap {l : List Wt} (h : Hp l) {i : Nat} (hi : i < l.length) : Hp (takeF l i) ∧ (takeF l i).Perm (l.eraseIdx i) := by
  have hL := cutF_len l i
  unfold takeF
  by_cases hil : i < l.length - 1
  · rw [if_pos hil]
    refine ⟨?_, ?_⟩
    · by_cases hup : 0 < i ∧ ¬ ordW (gW (cutF l i) ((i - 1) / 2)) (gW (cutF l i) i) ≤ 0
      · have hlt := leW_of_lt (leW_of_not (fun h' => hup.2 ((ordW_le _ _).2 h')))
        rw [cut_i hil, cut_o (by omega) (by omega)] at hlt
        have hU : Hp (upF (cutF l i) i) := by
          refine up_heap _ _ (by omega) ⟨fun j hj hjl hne => ?_, fun h0 j hj hjl hp => ?_⟩
          · rw [cut_o (j := j) (by omega) hne]
            by_cases e : (j - 1) / 2 = i
            · rw [e, cut_i hil]
              have k1 := h i hup.1 hi
              have k2 := h j hj (by omega)
              rw [e] at k2
              exact leW_trans hlt (leW_trans k1 k2)
            · rw [cut_o (by omega) e]; exact h j hj (by omega)
          · rw [cut_o (j := j) (by omega) (by omega), cut_o (by omega) (by omega)]
            have k1 := h i h0 hi
            have k2 := h j hj (by omega)
            rw [hp] at k2
            exact leW_trans k1 k2
        rw [down_same hU]
        exact hU
      · have hUp : upF (cutF l i) i = cutF l i := by
          rcases Nat.eq_zero_or_pos i with rfl | h0
          · exact upF_zero _
          · exact upF_stop (Decidable.byContradiction fun h' => hup ⟨h0, h'⟩)
        rw [hUp]
        refine down_heap _ _ _ (Nat.le_refl _) ⟨fun j hj hjl hne => ?_, fun h0 j hj hjl hp => ?_⟩
        · rw [cut_o (j := (j - 1) / 2) (by omega) hne]
          by_cases e : j = i
          · subst e
            have := (ordW_le _ _).1 (Decidable.byContradiction fun h' => hup ⟨hj, h'⟩)
            rwa [cut_o (by omega) hne] at this
          · rw [cut_o (by omega) e]; exact h j hj (by omega)
        · rw [cut_o (j := j) (by omega) (by omega), cut_o (by omega) (by omega)]
          have k1 := h i h0 hi
          have k2 := h j hj (by omega)
          rw [hp] at k2
          exact leW_trans k1 k2
    · exact ((downF_perm _ _ _ (Nat.le_refl _)).trans (upF_perm _ _ (by omega))).trans (cutF_perm hi)
  · rw [if_neg hil]
    refine ⟨fun j hj hjl => ?_, cutF_perm hi⟩
    rw [cut_o (j := j) (by omega) (by omega), cut_o (by omega) (by omega)]
    exact h j hj (by omega)
end Go.Proofs.Ytbngcepekaicjaa
